/- The row over the walk. -/
import Derived.Test.YtbofhnjjlbjmcaaGreatDoorLaw
import Derived.Test.YtbofhnjjlbjmcaaGreatDoorBook
import Derived.Test.YtbofhnjjlbjmcaaGreatDoorWit2
set_option linter.unusedVariables false
set_option linter.unusedSimpArgs false
namespace Go.Proofs.YtbofhnjjlbjmcaaGreatDoor
open Go.ChangeShapes Go.WideShapes Go.ChangeAt Go.RowKit Go.Joins
set_option maxRecDepth 100000

theorem own : ownKnob Tryz.prog.godebug = none := by kernel_rfl
theorem cells25 : Tryz.prog.cellsOf 25 = 4 := by kernel_rfl
theorem cells29 : Tryz.prog.cellsOf 29 = 6 := by kernel_rfl
theorem cells26 : Tryz.prog.cellsOf 26 = 1 := by kernel_rfl
theorem cells3 : Tryz.prog.cellsOf 3 = 1 := by kernel_rfl
theorem cells9 : Tryz.prog.cellsOf 9 = 1 := by kernel_rfl
theorem cells2 : Tryz.prog.cellsOf 2 = 1 := by kernel_rfl
theorem cells27 : Tryz.prog.cellsOf 27 = 1 := by kernel_rfl

section
variable {H : Type} {enc : TypeId × Value → H} {w : World} {base : Nat} {sp : Nat → Bool} {held : Bool}
theorem one_int {t : TypeId} {k : IntKind} {n : Nat} {l : List Value} {x : DataW H × List MemPlace} (ht : Tryz.prog.underlying t = some (.int k)) (h : DataW.trod enc Tryz.prog w base sp held n t l = some x) :
    ∃ z, l = [.int k z] ∧ x.2 = [] := by
  obtain ⟨z, h1, h2, _⟩ := DataW.trod_int ht h
  exact ⟨z, h1, by rw [h2]⟩
theorem one_text {t : TypeId} {n : Nat} {l : List Value} {x : DataW H × List MemPlace} (ht : Tryz.prog.underlying t = some .string) (h : DataW.trod enc Tryz.prog w base sp held n t l = some x) :
    ∃ s, l = [.string s] ∧ x.2 = [] := by
  obtain ⟨s, h1, h2, _⟩ := DataW.trod_string ht h
  exact ⟨s, h1, by rw [h2]⟩
theorem open25 {r : Reach} {b0 : Nat} {v : Value} {d : DataW H} {p : List MemPlace} (hv : Value.okWide Tryz.prog w r b0 25 v) (h : DataW.Trod enc Tryz.prog w base sp held 25 v d p) :
    ∃ a b c e : Int, v = .agg #[.int .i64 a, .int .i64 b, .int .u8 c, .int .u8 e] ∧ p = [] := by
  obtain ⟨v0, v1, v2, v3, y0, y1, y2, y3, n, rfl, _, rfl, h0, h1, h2, h3⟩ := open_agg4 Tryz.underlying25 (by kernel_rfl) cells25 hv h
  obtain ⟨a, e0, q0⟩ := one_int Tryz.underlying3 h0
  obtain ⟨b, e1, q1⟩ := one_int Tryz.underlying2 h1
  obtain ⟨c, e2, q2⟩ := one_int Tryz.underlying22 h2
  obtain ⟨e, e3, q3⟩ := one_int Tryz.underlying23 h3
  cases e0; cases e1; cases e2; cases e3
  exact ⟨a, b, c, e, rfl, by rw [q0, q1, q2, q3]; rfl⟩
theorem array6 {α : Type} {a : Array α} (h : a.size = 6) : ∃ x0 x1 x2 x3 x4 x5, a = #[x0, x1, x2, x3, x4, x5] := by
  obtain ⟨l⟩ := a
  match l, h with
  | [x0, x1, x2, x3, x4, x5], _ => exact ⟨x0, x1, x2, x3, x4, x5, rfl⟩
theorem open29 {r : Reach} {b0 : Nat} {v : Value} {d : DataW H} {p : List MemPlace} (hv : Value.okWide Tryz.prog w r b0 29 v) (h : DataW.Trod enc Tryz.prog w base sp held 29 v d p) :
    ∃ (a b : Int) (s : ByteArray) (c e f : Int), v = .agg #[.int .u8 a, .int .i64 b, .string s, .int .i64 c, .int .i64 e, .int .u32 f] ∧ p = [] := by
  obtain ⟨cs, rfl, hsz⟩ := okWide_struct Tryz.underlying29 hv
  rw [cells29] at hsz
  obtain ⟨x0, x1, x2, x3, x4, x5, rfl⟩ := array6 hsz
  obtain ⟨fuel, hf⟩ := h
  obtain ⟨xs, n, _, hx, _, hlen, hel⟩ := DataW.trod_struct Tryz.underlying29 hf
  have h0 := hel 0 _ rfl
  have h1 := hel 1 _ rfl
  have h2 := hel 2 _ rfl
  have h3 := hel 3 _ rfl
  have h4 := hel 4 _ rfl
  have h5 := hel 5 _ rfl
  have hl : xs.length = 6 := hlen
  match xs, hl with
  | [y0, y1, y2, y3, y4, y5], _ =>
    obtain ⟨a, e0, q0⟩ := one_int (x := y0) Tryz.underlying26 h0
    obtain ⟨b, e1, q1⟩ := one_int (x := y1) Tryz.underlying3 h1
    obtain ⟨s, e2, q2⟩ := one_text (x := y2) Tryz.underlying9 h2
    obtain ⟨c, e3, q3⟩ := one_int (x := y3) Tryz.underlying3 h3
    obtain ⟨e, e4, q4⟩ := one_int (x := y4) Tryz.underlying2 h4
    obtain ⟨f, e5, q5⟩ := one_int (x := y5) Tryz.underlying27 h5
    cases e0; cases e1; cases e2; cases e3; cases e4; cases e5
    have hp := (Prod.mk.inj hx).2
    refine ⟨a, b, s, c, e, f, rfl, ?_⟩
    rw [hp]
    simp [q0, q1, q2, q3, q4, q5]
end

theorem laidOut_of (h1 : ((List.range Tryz.prog.types.size).take 454).all (rowFine Tryz.prog) = true) (h2 : ((List.range Tryz.prog.types.size).drop 454).all (rowFine Tryz.prog) = true)
    (h3 : Tryz.prog.globals.all (fun g => decide (g.type < Tryz.prog.types.size)) = true) (h4 : Tryz.prog.funcs.all (fun f => f.params.all fun t => decide (t < Tryz.prog.types.size)) = true) : laidOutB Tryz.prog = true := by
  have h12 : (List.range Tryz.prog.types.size).all (rowFine Tryz.prog) = true := by
    rw [← List.take_append_drop 454 (List.range Tryz.prog.types.size), List.all_append, h1, h2]; rfl
  unfold laidOutB
  rw [h12, h3, h4]; rfl

theorem lifted (laidOut : laidOutB Tryz.prog = true) (os : Os) (started : os.Started) (H : Type) (enc : TypeId × Value → H) :
    ReturnsInHanded {} Tryz.checked os 3 .any (fun w args => (Rows.serverNoneSpec.pre enc Tryz.prog Tryz.f3 Rows.serverNoneRow.domain false w args ∧ laidMetH Tryz.prog Rows.serverNoneRow.laid w) ∧ sizedMet enc Tryz.prog Tryz.f3 (OpenSpec.ofChange Rows.serverNoneSpec) false w args)
      (Rows.serverNoneSpec.post enc Tryz.prog Tryz.f3 false true false false) := by
  refine returnsInHanded_of_change_and (C := Tryz.checked) (X := fun w _ => laidMetH Tryz.prog Rows.serverNoneRow.laid w) (fun _ _ _ hh h => h.of_heap hh) own started (by kernel_rfl) Tryz.func3
    (ChangeSpec.witness_shaped (enc := enc) (C := Tryz.checked) (os := os) (X := fun w _ => laidMetH Tryz.prog Rows.serverNoneRow.laid w) false (World.laidAll Tryz.prog os Rows.serverNoneRow.laid)
      zargs 8 (World.laidAll_os _ _ _)
      (World.shaped_of_ZipB (w2 os) (w3 os)) (by kernel_rfl) (by kernel_rfl) (by kernel_rfl)
      (by rw [MakeChecks.laidMetH_plain _ _ _ (by kernel_rfl)]; exact laidMet_laidAll _ (w8 os) (w9 os))) ?_
  intro W base args ds gs before hval0 hW hc _ hL _
  have hval : ∀ (j : Nat) t v, Tryz.f3.params[j]? = some t → args[j]? = some v → Value.okWide Tryz.prog W .any base t v := hval0
  have hW' := hW
  obtain ⟨p, q, hA0, hV, rfl, _, _⟩ := hW
  have hA : DataW.TrodAll enc Tryz.prog W 0 (fun _ => true) true Tryz.f3.params.toList args.toList ds p := hA0
  rw [Tryz.params3] at hA hval
  obtain ⟨v0, v1, d0, d1, p0, p1, rfl, rfl, rfl, h0, h1⟩ := trodAll_two hA
  obtain ⟨rfl, rfl⟩ := trodVars_none hV
  obtain ⟨a, b, c, e, rfl, rfl⟩ := open25 (hval 0 25 v0 rfl rfl) h0
  obtain ⟨a', b', s', c', e', f', rfl, rfl⟩ := open29 (hval 1 29 v1 rfl rfl) h1
  refine (KT.law_calls a b c e a' b' c' e' f' s' W).mono fun x W' ⟨hx, hB⟩ => ?_
  subst hx
  refine ⟨_, rfl, _, [], _, [], [], [], hW', ?_, ?_, ?_, Below.frame hB _, fun h => by cases h⟩
  · exact trodAll_mk1 (shut_bool Tryz.underlying4 true)
  · have k0 := Below.trod laidOut read25 (by rw [size908]; decide) h0 hB (fun _ h => by cases h)
    have k1 := Below.trod laidOut read29 (by rw [size908]; decide) h1 hB (fun _ h => by cases h)
    exact trodAll_mk2 k0 k1
  · rfl
end Go.Proofs.YtbofhnjjlbjmcaaGreatDoor
