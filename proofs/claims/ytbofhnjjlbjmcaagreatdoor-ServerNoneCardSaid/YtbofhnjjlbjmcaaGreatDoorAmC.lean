/- The machine's operations are the model's, part 2. -/
import Derived.Test.YtbofhnjjlbjmcaaGreatDoorAmB
import Derived.Laws.Strings
import Derived.Laws.Append
set_option linter.unusedVariables false
set_option linter.unusedSimpArgs false
section
set_option linter.unusedVariables false
namespace Go.Am
open Go Go.RowKit

section
variable {P : Program} {A : AP} {ρ : Rho} {h : T Ob} {n B : Nat} {w0 w : World}

/-! places -/
theorem sim_fieldAddrV (hA : APOk P A) {s : TypeId} {x x' : Value} {i : Nat} (hx : VR ρ x x') : SimV P ρ w (fieldAddrV A s x i none some) (Instr.fieldAt s x' i) := by
  intro v hv
  unfold fieldAddrV at hv
  split at hv
  · rename_i b o
    cases hx with
    | @ptr _ _ e he =>
      split at hv
      · rename_i fs hu
        simp only [lnth_eq] at hv
        split at hv
        · rename_i fd hfd
          split at hv
          · rename_i sz hs
            simp only [offK, natK_eq, Option.some.injEq, natAdd] at hv
            subst hv
            refine ⟨.pointer (some ⟨e.r, o + fd.offset, none⟩), ?_, .ptr he⟩
            have hfd' : fs[i]? = some fd := by simpa using hfd
            simp [Instr.fieldAt, run_under hA hu, hfd', Instr.sureAddr, fieldPlace, run_sizeOf hA hs, addr_add]
          · simp at hv
        · simp at hv
      · simp at hv
  · simp at hv

theorem sim_elem {b o i s len : Nat} {e : Ent} (he : ρ b = some e) {v : Value} (hv : elemAddr b o i s len none some = some v) : i < len ∧ VR ρ v (.pointer (some ⟨e.r, o + i * s, none⟩)) := by
  simp only [elemAddr, natBlt, Bool.cond_decide, offK, natK_eq, natAdd, natMul] at hv
  split at hv
  · rename_i hl
    simp only [Option.some.injEq] at hv
    subst hv
    exact ⟨hl, .ptr he⟩
  · simp at hv

theorem sim_indexAddrV (hA : APOk P A) {t : TypeId} {x x' i i' : Value} (hx : VR ρ x x') (hi : VR ρ i i') : SimV P ρ w (indexAddrV A t x i none some) (Instr.indexAt t x' i') := by
  intro v hv
  unfold indexAddrV at hv
  split at hv
  · rename_i k i
    cases hi
    split at hv
    · rename_i len el hu
      split at hv
      · rename_i b o
        cases hx with
        | @ptr _ _ e he =>
          split at hv
          · rename_i s hs
            obtain ⟨hl, hr⟩ := sim_elem he hv
            refine ⟨_, ?_, hr⟩
            simp [Instr.indexAt, asIntOf, run_under hA hu, Instr.sureAddr, run_sizeOf hA hs, addr_add, hl]
          · simp at hv
      · simp at hv
    · rename_i el hu
      split at hv
      · rename_i b o len cap
        split at hv
        · rename_i s hs
          cases hx with
          | @slice _ _ _ _ e he hc =>
            obtain ⟨hl, hr⟩ := sim_elem he hv
            refine ⟨_, ?_, hr⟩
            simp [Instr.indexAt, asIntOf, run_under hA hu, run_sizeOf hA hs, addr_add, hl]
          | @loose _ _ o' _ c c' e he h1 h2 h3 h4 =>
            obtain ⟨hl, hr⟩ := sim_elem he hv
            have ho : o' = o := (h4 (by omega)).1
            subst ho
            refine ⟨_, ?_, hr⟩
            simp [Instr.indexAt, asIntOf, run_under hA hu, run_sizeOf hA hs, addr_add, hl]
        · simp at hv
      · simp at hv
    · simp at hv
  · simp at hv

/-- a part of an aggregate -/
theorem sim_partV (hA : APOk P A) {t : TypeId} {cs cs' : List Value} {off : Nat} (hc : VRs ρ cs cs') : SimV P ρ w (partV A t cs off none some) (part t cs'.toArray off) := by
  intro v hv
  unfold partV at hv
  split at hv
  · rename_i agg ha
    split at hv
    · rename_i s hs
      cases agg with
      | true =>
        simp only [Am.loadCells, cond_true, ldrop_eq, ltakeK_eq] at hv
        split at hv
        · rename_i hm
          simp only [Option.some.injEq] at hv
          subst hv
          refine ⟨.agg (cs'.toArray.extract off (off + s)), by simp [part, run_isAgg hA ha, run_sizeOf hA hs], ?_⟩
          have := VRs.toAgg (VRs.take (VRs.drop hc off) s)
          have e : cs'.toArray.extract off (off + s) = ⟨(cs'.drop off).take s⟩ := by
            simp [List.extract_eq_take_drop]
          rw [e]; exact this
        · simp at hv
      | false =>
        simp only [Am.loadCells, cond_false, lnth_eq, vK_eq] at hv
        split at hv
        · rename_i x hx
          simp only [Option.some.injEq] at hv
          subst hv
          obtain ⟨y, hy, hxy⟩ := hc.get hx
          have hy' : cs'.toArray[off]? = some y := by simpa using hy
          exact ⟨y, by simp [part, run_isAgg hA ha, hy], hxy⟩
        · simp at hv
    · simp at hv
  · simp at hv

theorem sim_fieldV (hA : APOk P A) {t : TypeId} {x x' : Value} {i : Nat} (hx : VR ρ x x') : SimV P ρ w (fieldV A t x i none some) (Instr.field t x' i) := by
  intro v hv
  unfold fieldV at hv
  split at hv
  · rename_i cs
    obtain ⟨ys, rfl, hys⟩ := VRs.ofAgg hx
    split at hv
    · rename_i fs hu
      simp only [lnth_eq] at hv
      split at hv
      · rename_i fd hfd
        have hfd' : fs[i]? = some fd := by simpa using hfd
        obtain ⟨v', g1, g2⟩ := sim_partV (w := w) hA hys v hv
        exact ⟨v', by simp [Instr.field, run_under hA hu, hfd', asAgg, g1], g2⟩
      · simp at hv
    · simp at hv
  · simp at hv

theorem sim_indexV (hA : APOk P A) {t : TypeId} {x x' i i' : Value} (hx : VR ρ x x') (hi : VR ρ i i') : SimV P ρ w (indexV A t x i none some) (Instr.index t x' i') := by
  intro v hv
  unfold indexV at hv
  split at hv
  · rename_i k i
    cases hi
    split at hv
    · rename_i cs
      obtain ⟨ys, rfl, hys⟩ := VRs.ofAgg hx
      split at hv
      · rename_i len el hu
        split at hv
        · rename_i s hs
          simp only [natBlt, Bool.cond_decide, natMul] at hv
          split at hv
          · rename_i hl
            obtain ⟨v', g1, g2⟩ := sim_partV (w := w) hA hys v hv
            refine ⟨v', ?_, g2⟩
            simp [Instr.index, asIntOf, run_under hA hu, run_sizeOf hA hs, hl, g1]
          · simp at hv
        · simp at hv
      · simp at hv
    · rename_i s
      cases hx
      split at hv
      · rename_i hu
        simp only [lnth_eq, natK_eq] at hv
        split at hv
        · rename_i b hb
          simp only [Option.some.injEq] at hv
          subst hv
          refine ⟨.int .u8 b.toNat, ?_, .int _ _⟩
          have hb' : s[i]? = some b := by
            have hb2 : s.data[i]? = some b := by simpa using hb
            rw [Array.getElem?_eq_some_iff] at hb2
            obtain ⟨hlt, hbe⟩ := hb2
            have hlt' : i < s.size := hlt
            rw [getElem?_pos s i hlt']
            exact congrArg some hbe
          simp [Instr.index, asIntOf, run_under hA hu, hb']
        · simp at hv
      · simp at hv
    · simp at hv
  · simp at hv

/-! assertions -/
theorem sim_failsV (hA : APOk P A) {t : TypeId} {ok : Bool} {v : Value} (hv : failsV A t ok none some = some v) : ok = true ∧ ∃ z, zeroT A t = some z ∧ v = .tuple #[z, .bool false] ∧ VR ρ v v := by
  unfold failsV at hv
  cases ok with
  | false => simp at hv
  | true =>
    simp only [cond_true] at hv
    split at hv
    · rename_i z hz
      simp only [Option.some.injEq] at hv
      subst hv
      exact ⟨rfl, z, hz, rfl, VRs.toTuple (VRs.cons (VR.plainV (zero_plain hA hz)) (VRs.cons (.bool false) VRs.nil))⟩
    · simp at hv

theorem sim_assertV (hA : APOk P A) {t u : TypeId} {x x' : Value} {ok : Bool} (hx : VR ρ x x') : SimV P ρ w (assertV A x t ok none some) (Instr.typeAssert x' u t ok) := by
  intro v hv
  unfold assertV at hv
  split at hv
  · rename_i ms hu
    split at hv
    · cases hx
      obtain ⟨rfl, z, hz, rfl, hr⟩ := sim_failsV (ρ := ρ) hA hv
      exact ⟨_, by simp [Instr.typeAssert, run_under hA hu, run_zero hA hz], hr⟩
    · simp at hv
  · rename_i d hne hu
    split at hv
    · cases hx
      obtain ⟨rfl, z, hz, rfl, hr⟩ := sim_failsV (ρ := ρ) hA hv
      refine ⟨_, ?_, hr⟩
      simp only [Instr.typeAssert, Sem.run_bind, run_under hA hu, Result.andThen_ok]
      cases d <;> first | exact absurd hu (hne _) | simp [run_zero hA hz]
    · rename_i t' x
      cases hx with
      | @iface _ _ x2 hx2 =>
        simp only [natBeq, Bool.cond_decide] at hv
        split at hv
        · rename_i hte
          subst hte
          cases ok with
          | true =>
            simp only [cond_true, Option.some.injEq] at hv
            subst hv
            refine ⟨.tuple #[x2, .bool true], ?_, VRs.toTuple (VRs.cons hx2 (VRs.cons (.bool true) VRs.nil))⟩
            simp only [Instr.typeAssert, Sem.run_bind, run_under hA hu, Result.andThen_ok]
            cases d <;> first | exact absurd hu (hne _) | simp
          | false =>
            simp only [cond_false, Option.some.injEq] at hv
            subst hv
            refine ⟨x2, ?_, hx2⟩
            simp only [Instr.typeAssert, Sem.run_bind, run_under hA hu, Result.andThen_ok]
            cases d <;> first | exact absurd hu (hne _) | simp
        · rename_i hte
          obtain ⟨rfl, z, hz, rfl, hr⟩ := sim_failsV (ρ := ρ) hA hv
          refine ⟨_, ?_, hr⟩
          simp only [Instr.typeAssert, Sem.run_bind, run_under hA hu, Result.andThen_ok]
          cases d <;> first | exact absurd hu (hne _) | simp [run_zero hA hz, hte]
    · simp at hv
  · simp at hv

theorem sim_xPanic (hw : WR P ρ h n B w0 w) {tm : T Value} {x : Operand} {x' : Value} (hx : VR ρ (ev tm x) x') :
    Sim P ρ h n B w0 w (xPanic x A tm h n) (asNext (Instr.panic x')) := by
  unfold xPanic
  split
  · rename_i t v hv
    rw [hv] at hx
    cases hx with
    | @iface _ _ v' hv' =>
      intro r h' n' hr
      simp only [Res.ok.injEq] at hr
      obtain ⟨rfl, rfl, rfl⟩ := hr
      exact .inl ⟨_, _, rfl, .iface t hv', by simp [asNext, Instr.panic], rfl, rfl⟩
  · exact Sim.fail

/-! copies of rows -/
theorem run_getMap (hw : WR P ρ h n B w0 w) {m : Nat} {e : Ent} {es : List MapEntry} {clock : Nat} (hm : h.get m = some (.map es clock)) (he : ρ m = some e) :
    ∃ er, (getObj e.r).run P w = .ok (.map er clock) w ∧ w.heap[e.r]? = some (.map er clock) ∧ ERs ρ es er.toList := by
  obtain ⟨er, h1, h2⟩ := hw.live m _ hm e he
  exact ⟨er, by simp [getObj, Sem.run, h1], h1, h2⟩
end
end Go.Am
end
section
set_option linter.unusedVariables false
namespace Go.Am
open Go Go.RowKit

theorem wrap_mod (k : IntKind) (n : Int) : k.wrap (n % (2 ^ k.bits : Int)) = k.wrap n := by
  unfold IntKind.wrap; simp only [Int.emod_emod]
theorem toNat_ofInt (w : Nat) (a : Nat) : (BitVec.ofInt w (Int.ofNat a)).toNat = a % 2 ^ w := by
  simp
theorem ofNat_mod (k : IntKind) (a : Nat) : k.wrap (Int.ofNat (a % 2 ^ k.bits)) = k.wrap (Int.ofNat a) := by
  have : (Int.ofNat (a % 2 ^ k.bits)) = (Int.ofNat a) % (2 ^ k.bits : Int) := by
    simp
  rw [this, wrap_mod]

theorem le_not (a b : Int) : decide (a ≤ b) = !decide (b < a) := by
  by_cases h : a ≤ b
  · have : ¬ b < a := by omega
    simp [h, this]
  · have : b < a := by omega
    simp [h, this]

section
variable {P : Program} {A : AP} {ρ : Rho} {h : T Ob} {n B : Nat} {w0 w : World}

/-- what is made of two numbers -/
def IntV (P : Program) (w : World) (x : Option Value) (s : Sem Value) : Prop := ∀ v, x = some v → (∃ k n, v = .int k n) ∧ s.run P w = .ok v w ∨ (∃ b, v = .bool b) ∧ s.run P w = .ok v w

theorem SimV.same {x : Option Value} {s : Sem Value} (hs : ∀ v, x = some v → s.run P w = .ok v w ∧ plainV v = true) : SimV P ρ w x s := by
  intro v hv
  obtain ⟨h1, h2⟩ := hs v hv
  exact ⟨v, h1, VR.plainV h2⟩

theorem sim_intOp {op : BinOp} {kd : IntKind} {a b : Int} {t : TypeId} (hop : op ≠ .shl) (hop' : op ≠ .shr) :
    ∀ v, intOp op kd a b none some = some v → (binOp op t (.int kd a) (.int kd b)).run P w = .ok v w ∧ plainV v = true := by
  intro v hv
  have hself : ¬ (kd ≠ kd) := fun h => h rfl
  cases op with
  | shl => exact absurd rfl hop
  | shr => exact absurd rfl hop'
  | add => simp only [intOp, iAdd, vint_eq, Option.some.injEq] at hv; subst hv; exact ⟨by simp [binOp, Op.intArith], rfl⟩
  | sub => simp only [intOp, iSub, vint_eq, Option.some.injEq] at hv; subst hv; exact ⟨by simp [binOp, Op.intArith]; rfl, rfl⟩
  | mul => simp only [intOp, iMul, vint_eq, Option.some.injEq] at hv; subst hv; exact ⟨by simp [binOp, Op.intArith], rfl⟩
  | quo =>
    simp only [intOp, nnPos] at hv
    split at hv
    · split at hv
      · simp only [vint_eq, Option.some.injEq] at hv
        subst hv
        refine ⟨?_, rfl⟩
        simp only [binOp, ne_eq, not_true_eq_false, if_false, Op.intDiv]
        rw [if_neg (by simp; omega)]
        rfl
      · simp at hv
    · simp at hv
  | rem =>
    simp only [intOp, nnRaw] at hv
    split at hv
    · split at hv
      · simp only [natK_eq, Option.some.injEq] at hv
        subst hv
        refine ⟨?_, rfl⟩
        simp only [binOp, ne_eq, not_true_eq_false, if_false, Op.intDiv]
        rw [if_neg (by simp; omega)]
        rfl
      · simp at hv
    · simp at hv
  | and =>
    simp only [intOp, nn] at hv
    split at hv
    · split at hv
      · simp only [vint_eq, Option.some.injEq] at hv
        subst hv
        refine ⟨?_, rfl⟩
        simp only [binOp, ne_eq, not_true_eq_false, if_false, Op.intBits, Sem.run_pure, BitVec.toNat_and, toNat_ofInt, ← Nat.and_mod_two_pow]
        rw [← ofNat_mod]; rfl
      · simp at hv
    · simp at hv
  | or =>
    simp only [intOp, nn] at hv
    split at hv
    · split at hv
      · simp only [vint_eq, Option.some.injEq] at hv
        subst hv
        refine ⟨?_, rfl⟩
        simp only [binOp, ne_eq, not_true_eq_false, if_false, Op.intBits, Sem.run_pure, BitVec.toNat_or, toNat_ofInt, ← Nat.or_mod_two_pow]
        rw [← ofNat_mod]; rfl
      · simp at hv
    · simp at hv
  | xor =>
    simp only [intOp, nn] at hv
    split at hv
    · split at hv
      · simp only [vint_eq, Option.some.injEq] at hv
        subst hv
        refine ⟨?_, rfl⟩
        simp only [binOp, ne_eq, not_true_eq_false, if_false, Op.intBits, Sem.run_pure, BitVec.toNat_xor, toNat_ofInt, ← Nat.xor_mod_two_pow]
        rw [← ofNat_mod]; rfl
      · simp at hv
    · simp at hv
  | andNot => simp [intOp, iNo] at hv
  | eql => simp only [intOp, iEql, vbool_eq, intEq_eq, Option.some.injEq] at hv; subst hv; exact ⟨by simp [binOp, Op.intCmp]; rfl, rfl⟩
  | neq => simp only [intOp, iNeq, vbool_eq, intEq_eq, Option.some.injEq] at hv; subst hv; exact ⟨by simp [binOp, Op.intCmp]; rfl, rfl⟩
  | lss => simp only [intOp, iLss, vbool_eq, intLt_eq, Option.some.injEq] at hv; subst hv; exact ⟨by simp [binOp, Op.intCmp], rfl⟩
  | leq => simp only [intOp, iLeq, vbool_eq, intLt_eq, Option.some.injEq] at hv; subst hv; exact ⟨by simp [binOp, Op.intCmp]; exact le_not a b, rfl⟩
  | gtr => simp only [intOp, iGtr, vbool_eq, intLt_eq, Option.some.injEq] at hv; subst hv; exact ⟨by simp [binOp, Op.intCmp], rfl⟩
  | geq => simp only [intOp, iGeq, vbool_eq, intLt_eq, Option.some.injEq] at hv; subst hv; exact ⟨by simp [binOp, Op.intCmp]; exact le_not b a, rfl⟩
end
end Go.Am
end
section
set_option linter.unusedVariables false
namespace Go.Am
open Go Go.RowKit

section
variable {P : Program} {A : AP} {ρ : Rho} {h : T Ob} {n B : Nat} {w0 w : World}

/-! slices -/
/-- an operand that may be absent -/
inductive OVR (ρ : Rho) : Option Value → Option Value → Prop
  | none : OVR ρ none none
  | some {x y : Value} : VR ρ x y → OVR ρ (some x) (some y)

theorem run_bound {x x' : Option Value} (hx : OVR ρ x x') {y d i : Nat} {code : BoundsCode} (hb : bound x y d none some = some i) :
    (x = none ∧ x' = none ∧ i = d) ∨ ∃ k, x = some (.int k (.ofNat i)) ∧ x' = some (.int k ((i : Nat) : Int)) ∧ i ≤ y ∧ (Instr.sliceBound (.int k ((i : Nat) : Int)) y code).run P w = .ok i w := by
  unfold bound at hb
  split at hb
  · cases hx; simp only [Option.some.injEq] at hb; exact .inl ⟨rfl, rfl, hb.symm⟩
  · rename_i k j
    cases hx with
    | some hv =>
      cases hv
      simp only [natBle, Bool.cond_decide] at hb
      split at hb
      · rename_i hle
        simp only [Option.some.injEq] at hb
        subst hb
        refine .inr ⟨k, rfl, rfl, hle, ?_⟩
        have h1 : ((j : Int) ≤ (y : Int)) := by omega
        simp [Instr.sliceBound, asIntOf, h1]
      · simp at hb
  · simp at hb

theorem bound_map {β : Type} (x : Option Value) (y d : Nat) (f : β) (k : Nat → β) : bound x y d f k = match bound x y d none some with | some i => k i | none => f := by
  unfold bound
  split
  · rfl
  · cases Nat.ble _ y <;> rfl
  · rfl

/-- the three bounds -/
theorem run_bounds {isSlice : Bool} {lo hi mx lo' hi' mx' : Option Value} (hlo : OVR ρ lo lo') (hhi : OVR ρ hi hi') (hmx : OVR ρ mx mx') {len cap m hh l : Nat}
    (h1 : bound mx cap cap none some = some m) (h2 : bound hi m len none some = some hh) (h3 : bound lo hh 0 none some = some l) (hno : mx = none ∨ hi ≠ none) :
    (Instr.sliceBounds isSlice len cap lo' hi' mx').run P w = .ok (l, hh, m) w := by
  rcases run_bound (P := P) (w := w) (code := if isSlice then .slice3Acap else .slice3Alen) hmx h1 with ⟨rfl, rfl, rfl⟩ | ⟨k1, rfl, rfl, g1, r1⟩
  · rcases run_bound (P := P) (w := w) (code := if isSlice then .sliceAcap else .sliceAlen) hhi h2 with ⟨rfl, rfl, rfl⟩ | ⟨k2, rfl, rfl, g2, r2⟩
    · rcases run_bound (P := P) (w := w) (code := .sliceB) hlo h3 with ⟨rfl, rfl, rfl⟩ | ⟨k3, rfl, rfl, g3, r3⟩
      · simp [Instr.sliceBounds]
      · simp [Instr.sliceBounds, r3]
    · rcases run_bound (P := P) (w := w) (code := .sliceB) hlo h3 with ⟨rfl, rfl, rfl⟩ | ⟨k3, rfl, rfl, g3, r3⟩
      · simp [Instr.sliceBounds, r2]
      · simp [Instr.sliceBounds, r2, r3]
  · rcases run_bound (P := P) (w := w) (code := .slice3B) hhi h2 with ⟨rfl, rfl, rfl⟩ | ⟨k2, rfl, rfl, g2, r2⟩
    · rcases hno with hno | hno
      · simp at hno
      · exact absurd rfl hno
    · rcases run_bound (P := P) (w := w) (code := .slice3C) hlo h3 with ⟨rfl, rfl, rfl⟩ | ⟨k3, rfl, rfl, g3, r3⟩
      · simp [Instr.sliceBounds, r1, r2]
      · simp [Instr.sliceBounds, r1, r2, r3]

theorem fullOk_no {hi mx : Option Value} (hf : fullOk hi mx = true) : mx = none ∨ hi ≠ none := by
  unfold fullOk at hf
  split at hf
  · exact .inl rfl
  · split at hf
    · exact .inr (by simp)
    · simp at hf

theorem bound_le {x : Option Value} {y d i : Nat} (hb : bound x y d none some = some i) : i = d ∨ i ≤ y := by
  unfold bound at hb
  split at hb
  · simp only [Option.some.injEq] at hb; exact .inl hb.symm
  · simp only [natBle, Bool.cond_decide] at hb
    split at hb
    · simp only [Option.some.injEq] at hb; subst hb; exact .inr (by assumption)
    · simp at hb
  · simp at hb

theorem cutExact_eq {b o size l hh m : Nat} {v : Value} (hv : cutExact b o size l hh m some = some v) : v = .slice (some ⟨b, if m = l then o else o + l * size, none⟩) (hh - l) (m - l) := by
  simp only [cutExact, natK_eq, natBeq, Bool.cond_decide, natSub, natAdd, natMul] at hv
  split at hv
  · rename_i he
    simp only [Option.some.injEq] at hv
    subst hv; rw [if_pos he]
  · rename_i he
    simp only [Option.some.injEq] at hv
    subst hv; rw [if_neg he]

/-- the bounds of a slice expression, one after the other -/
theorem bounds3 {β : Type} {mx hi lo : Option Value} {cap len : Nat} {cx : Nat → Nat → Nat → Option β} {v : β} (hv : (bound mx cap cap none fun m => bound hi m len none fun hh => bound lo hh 0 none fun l => cx l hh m) = some v) :
    ∃ m hh l, bound mx cap cap none some = some m ∧ bound hi m len none some = some hh ∧ bound lo hh 0 none some = some l ∧ cx l hh m = some v := by
  rw [bound_map] at hv
  split at hv
  · rename_i m hm
    rw [bound_map] at hv
    split at hv
    · rename_i hh hhh
      rw [bound_map] at hv
      split at hv
      · rename_i l hl
        exact ⟨m, hh, l, hm, hhh, hl, hv⟩
      · simp at hv
    · simp at hv
  · simp at hv

theorem btakeK_eq {β : Type} : ∀ (l : List UInt8) (n : Nat) (k : List UInt8 → β), btakeK l n k = k (l.take n)
  | [], n, k => by simp; rfl
  | x :: xs, 0, k => rfl
  | x :: xs, n + 1, k => by
    show btakeK xs n (fun l => k (x :: l)) = _
    rw [btakeK_eq xs n]; simp

theorem sim_sliceV (hA : APOk P A) {t : TypeId} {x x' : Value} {lo hi mx lo' hi' mx' : Option Value} (hx : VR ρ x x') (hlo : OVR ρ lo lo') (hhi : OVR ρ hi hi') (hmx : OVR ρ mx mx') :
    SimV P ρ w (sliceV A t x lo hi mx none some) (Instr.sliceAt t x' lo' hi' mx') := by
  intro v hv
  unfold sliceV at hv
  split at hv
  · rename_i s
    split at hv
    · rename_i hu
      cases hx
      unfold sliceStr at hv
      split at hv
      · simp at hv
      · cases hmx
        rw [llenK_eq] at hv
        simp only [Nat.zero_add] at hv
        rw [bound_map] at hv
        split at hv
        · rename_i hh hhh
          rw [bound_map] at hv
          split at hv
          · rename_i l hl
            rw [btakeK_eq, ldrop_eq] at hv
            simp only [Option.some.injEq, natSub] at hv
            subst hv
            have hsz : s.data.toList.length = s.size := by rw [Array.length_toList]; rfl
            rw [hsz] at hhh
            have hr := run_bounds (P := P) (w := w) (isSlice := false) (mx := none) (mx' := none) (cap := s.size) (m := s.size) hlo hhi .none (by simp [bound]) hhh hl (.inl rfl)
            refine ⟨.string (s.extract l hh), ?_, ?_⟩
            · simp only [Instr.sliceAt, Sem.run_bind, run_under hA hu, Result.andThen_ok, Instr.slice, Option.isSome_none, Bool.false_eq_true, if_false, hr, Sem.run_pure]
            · have e : s.extract l hh = ⟨⟨(s.data.toList.drop l).take (hh - l)⟩⟩ := by
                apply ByteArray.ext
                rw [ByteArray.data_extract]
                apply Array.toList_inj.1
                simp [List.extract_eq_take_drop]
              rw [e]; exact .string _
          · simp at hv
        · simp at hv
    · simp at hv
  · rename_i b o len cap
    split at hv
    · rename_i el hu
      split at hv
      · rename_i size hs
        cases hf : fullOk hi mx with
        | false => simp [hf] at hv
        | true =>
          simp only [hf, cond_true] at hv
          have hno := fullOk_no hf
          cases hx with
          | @slice _ _ _ _ e he hc =>
            simp only [sliceSl, natBlt, Bool.cond_decide, if_pos hc] at hv
            obtain ⟨m, hh, l, h1, h2, h3, h4⟩ := bounds3 hv
            have hr := run_bounds (P := P) (w := w) (isSlice := true) hlo hhi hmx h1 h2 h3 hno
            refine ⟨.slice (some ⟨e.r, if m = l then o else o + l * size, none⟩) (hh - l) (m - l), ?_, ?_⟩
            · by_cases hml : m = l
              · simp [Instr.sliceAt, run_under hA hu, Instr.slice, hr, run_sizeOf hA hs, hml]
              · simp [Instr.sliceAt, run_under hA hu, Instr.slice, hr, run_sizeOf hA hs, hml, addr_add]
            · rw [cutExact_eq h4]
              refine .slice he ?_
              have := bound_le h1
              omega
          | @loose _ _ o' _ c c' e he g1 g2 g3 g4 =>
            have hge : ¬ (c + LOOSE * (e.s + 1) < LOOSE) := by simp only [LOOSE]; omega
            have hdiv : (c + LOOSE * (e.s + 1)) / LOOSE = e.s + 1 := by
              rw [Nat.add_mul_div_left _ _ (by simp [LOOSE]), Nat.div_eq_of_lt g3]; omega
            have hmod : (c + LOOSE * (e.s + 1)) % LOOSE = c := by
              rw [Nat.add_mul_mod_self_left, Nat.mod_eq_of_lt g3]
            simp only [sliceSl, natBlt, Bool.cond_decide, if_neg hge, natBeq, natDiv, natMod, natSucc, hdiv, hmod] at hv
            split at hv
            · rename_i hsz
              have hsz' : size = e.s := by omega
              split at hv
              · split at hv
                · simp at hv
                · rename_i mxv hc0
                  rw [bound_map] at hv
                  split at hv
                  · rename_i m hm
                    rw [bound_map] at hv
                    split at hv
                    · rename_i hh hhh
                      rw [bound_map] at hv
                      split at hv
                      · rename_i l hl
                        obtain ⟨ho, hcells⟩ := g4 (by omega)
                        subst ho
                        have hm' : bound (some mxv) c' c' none some = some m ∧ m ≤ c := by
                          unfold bound at hm ⊢
                          split at hm
                          · simp at *
                          · rename_i heq
                            simp only [natBle, Bool.cond_decide] at hm ⊢
                            split at hm
                            · simp only [Option.some.injEq] at hm
                              subst hm
                              rw [if_pos (by omega)]
                              exact ⟨rfl, by assumption⟩
                            · simp at hm
                          · simp at hm
                        have hr := run_bounds (P := P) (w := w) (isSlice := true) hlo hhi hmx hm'.1 hhh hl hno
                        refine ⟨.slice (some ⟨e.r, if m = l then o' else o' + l * size, none⟩) (hh - l) (m - l), ?_, ?_⟩
                        · by_cases hml : m = l
                          · simp [Instr.sliceAt, run_under hA hu, Instr.slice, hr, run_sizeOf hA hs, hml]
                          · simp [Instr.sliceAt, run_under hA hu, Instr.slice, hr, run_sizeOf hA hs, hml, addr_add]
                        · rw [cutExact_eq hv]
                          exact .slice he (by omega)
                      · simp at hv
                    · simp at hv
                  · simp at hv
              · rename_i hmxn
                rw [bound_map] at hv
                split at hv
                · rename_i hh hhh
                  rw [bound_map] at hv
                  split at hv
                  · rename_i l hl
                    simp only [cutLoose, natK_eq, looseK, natSub, natAdd, natMul, natSucc, Option.some.injEq] at hv
                    have hh' : bound hi c' len none some = some hh ∧ hh ≤ c := by
                      unfold bound at hhh ⊢
                      split at hhh
                      · simp only [Option.some.injEq] at hhh; subst hhh; exact ⟨rfl, g1⟩
                      · simp only [natBle, Bool.cond_decide] at hhh ⊢
                        split at hhh
                        · simp only [Option.some.injEq] at hhh
                          subst hhh
                          rw [if_pos (by omega)]
                          exact ⟨rfl, by assumption⟩
                        · simp at hhh
                      · simp at hhh
                    have hl' : l ≤ hh := by have := bound_le hl; omega
                    have hr := run_bounds (P := P) (w := w) (isSlice := true) hlo hhi hmx (cap := c') (m := c') (by simp [bound]) hh'.1 hl hno
                    refine ⟨.slice (some ⟨e.r, if c' = l then o' else o' + l * size, none⟩) (hh - l) (c' - l), ?_, ?_⟩
                    · by_cases hml : c' = l
                      · subst hml
                        simp [Instr.sliceAt, run_under hA hu, Instr.slice, hr, run_sizeOf hA hs]
                      · simp [Instr.sliceAt, run_under hA hu, Instr.slice, hr, run_sizeOf hA hs, hml, addr_add]
                    · subst hv
                      rw [hsz']
                      refine .loose he (by omega) (by omega) (by omega) (fun hne => ?_)
                      obtain ⟨p1, p2⟩ := g4 (by omega)
                      rw [if_neg (by omega)]
                      refine ⟨by rw [p1], ?_⟩
                      rw [← p2, Nat.sub_mul]
                      have : l * e.s ≤ c' * e.s := Nat.mul_le_mul_right _ (by omega)
                      omega
                  · simp at hv
                · simp at hv
            · simp at hv
      · simp at hv
    · simp at hv
  · split at hv
    · rename_i el hu
      split at hv
      · rename_i size hs
        cases hf : fullOk hi mx with
        | false => simp [hf] at hv
        | true =>
          simp only [hf, cond_true] at hv
          cases hx
          obtain ⟨m, hh, l, h1, h2, h3, h4⟩ := bounds3 (cx := fun _ _ _ => some (Value.slice none 0 0)) hv
          simp only [Option.some.injEq] at h4
          subst h4
          have hr := run_bounds (P := P) (w := w) (isSlice := true) hlo hhi hmx h1 h2 h3 (fullOk_no hf)
          have := bound_le h1
          have := bound_le h2
          have := bound_le h3
          have e1 : m = 0 := by omega
          have e2 : hh = 0 := by omega
          have e3 : l = 0 := by omega
          subst e1 e2 e3
          refine ⟨.slice none 0 0, ?_, .nilSlice 0 0⟩
          simp [Instr.sliceAt, run_under hA hu, Instr.slice, hr, run_sizeOf hA hs]
      · simp at hv
    · simp at hv
  · rename_i b o
    split at hv
    · rename_i nn el hu
      split at hv
      · rename_i size hs
        cases hf : (fullOk hi mx && Nat.blt nn LOOSE) with
        | false => simp [hf] at hv
        | true =>
          simp only [hf, cond_true] at hv
          simp only [Bool.and_eq_true, natBlt, decide_eq_true_eq] at hf
          cases hx with
          | @ptr _ _ e he =>
            obtain ⟨m, hh, l, h1, h2, h3, h4⟩ := bounds3 hv
            have hr := run_bounds (P := P) (w := w) (isSlice := false) hlo hhi hmx h1 h2 h3 (fullOk_no hf.1)
            refine ⟨.slice (some ⟨e.r, if m = l then o else o + l * size, none⟩) (hh - l) (m - l), ?_, ?_⟩
            · by_cases hml : m = l
              · simp [Instr.sliceAt, run_under hA hu, Instr.sureAddr, hr, run_sizeOf hA hs, hml]
              · simp [Instr.sliceAt, run_under hA hu, Instr.sureAddr, hr, run_sizeOf hA hs, hml, addr_add]
            · rw [cutExact_eq h4]
              refine .slice he ?_
              have := bound_le h1
              omega
      · simp at hv
    · simp at hv
  · simp at hv
end
end Go.Am
end
section
set_option linter.unusedVariables false
namespace Go.Am
open Go Go.RowKit

section
variable {P : Program} {A : AP} {ρ : Rho} {h h' : T Ob} {n B : Nat} {w0 w : World}

/-- an object that is no row of cells, written in both -/
theorem WR.setOb (hw : WR P ρ h n B w0 w) {b : Nat} {old ob : Ob} {e : Ent} (hb : h.get b = some old) (hd : old.dead = false) (he : ρ b = some e) (hp : h.put b ob = some h') {o : Obj}
    (hor : ∀ heap : Array Obj, heap[e.r]? = some o → OR P ρ heap e ob) : WR P ρ h' n B w0 { w with heap := w.heap.setIfInBounds e.r o } := by
  have hr := (hw.rng b e old he hb).2
  refine hw.upd hb hd he hp (by simp) (fun r hr => ?_) rfl rfl rfl (hor _ ?_)
  · show (w.heap.setIfInBounds e.r o)[r]? = _
    rw [Array.getElem?_setIfInBounds]; simp [Ne.symm hr]
  · show (w.heap.setIfInBounds e.r o)[e.r]? = _
    simp [hr]
theorem run_setOb {r : Nat} {o o' : Obj} (hh : w.heap[r]? = some o') (hn : ∀ c e f, o' ≠ .cells c e f) : (setObj r o).run P w = .ok () { w with heap := w.heap.setIfInBounds r o } := by
  cases o' with
  | cells c e f => exact absurd rfl (hn c e f)
  | _ => simp [setObj, Sem.run, hh]
theorem run_getOb {r : Nat} {o' : Obj} (hh : w.heap[r]? = some o') (hn : ∀ c e f, o' ≠ .cells c e f) : (getObj r).run P w = .ok o' w := by
  cases o' with
  | cells c e f => exact absurd rfl (hn c e f)
  | _ => simp [getObj, Sem.run, hh]

/-! keys -/
theorem run_forIn {fs : Array Field} {g : Field → PUnit → Sem (ForInStep PUnit)} (hg : ∀ f ∈ fs.toList, (g f ⟨⟩).run P w = .ok (.yield ⟨⟩) w) : (forIn fs PUnit.unit g).run P w = .ok ⟨⟩ w := by
  rw [← Array.forIn_toList]
  generalize fs.toList = l at hg
  induction l with
  | nil => simp
  | cons f l ih =>
    rw [List.forIn_cons]
    simp only [Sem.run_bind, hg f (by simp), Result.andThen_ok]
    exact ih fun f hf => hg f (by simp [hf])

theorem run_forIn_unit {fs : Array Field} {g : Field → PUnit → Sem (ForInStep PUnit)} (hg : ∀ f ∈ fs.toList, (g f ⟨⟩).run P w = .ok (.yield ⟨⟩) w) : ((forIn fs PUnit.unit g) >>= fun _ => pure ()).run P w = .ok () w := by
  simp [run_forIn hg]
theorem scalarKey_some {t : TypeId} {v : Value} (hk : scalarKey A t v = true) : (∃ k kd n, under A t = some (.int k) ∧ v = .int kd n) ∨ ∃ s, under A t = some .string ∧ v = .string s := by
  unfold scalarKey at hk
  split at hk
  · rename_i k hu
    split at hk
    · exact .inl ⟨k, _, _, hu, rfl⟩
    · simp at hk
  · rename_i hu
    split at hk
    · exact .inr ⟨_, hu, rfl⟩
    · simp at hk
  · simp at hk
theorem run_checkScalar (hA : APOk P A) {t : TypeId} {v v' : Value} (hv : VR ρ v v') (hk : scalarKey A t v = true) (empty : Bool) (d : Nat) : (Instr.checkKey empty (d + 1) t v').run P w = .ok () w := by
  rcases scalarKey_some hk with ⟨k, kd, m, hu, rfl⟩ | ⟨s, hu, rfl⟩
  · cases hv; simp [Instr.checkKey, run_under hA hu]
  · cases hv; simp [Instr.checkKey, run_under hA hu]
theorem scalarKey_agg {t : TypeId} {v : Value} (hk : scalarKey A t v = true) : isAggT A t = some false := by
  rcases scalarKey_some hk with ⟨k, kd, m, hu, rfl⟩ | ⟨s, hu, rfl⟩ <;> simp [isAggT, hu]
theorem fieldsKey_mem {cs : List Value} : ∀ {fs : List Field}, fieldsKey A cs fs = true → ∀ f ∈ fs, ∃ v, cs[f.offset]? = some v ∧ scalarKey A f.type v = true
  | [], _, f, hf => by simp at hf
  | g :: gs, hk, f, hf => by
    simp only [fieldsKey, lnth_eq] at hk
    split at hk
    · rename_i v hv
      cases hs : scalarKey A g.type v with
      | false => simp [hs] at hk
      | true =>
        simp only [hs, cond_true] at hk
        rcases List.mem_cons.1 hf with rfl | hm
        · exact ⟨v, hv, hs⟩
        · exact fieldsKey_mem hk f hm
    · simp at hk
theorem run_checkKey (hA : APOk P A) {t : TypeId} {v v' : Value} (hv : VR ρ v v') (hk : plainKey A t v = true) (empty : Bool) (d : Nat) (hd : 0 < d) : (Instr.checkKey empty (d + 1) t v').run P w = .ok () w := by
  unfold plainKey at hk
  split at hk
  · rename_i cs
    obtain ⟨ys, rfl, hys⟩ := VRs.ofAgg hv
    split at hk
    · rename_i fs hu
      simp only [Instr.checkKey, Sem.run_bind, run_under hA hu, Result.andThen_ok]
      have : ∀ f ∈ fs.toList, ∃ y, (part f.type ys f.offset).run P w = .ok y w ∧ (Instr.checkKey empty d f.type y).run P w = .ok () w := by
        intro f hf
        obtain ⟨x, h1, h2⟩ := fieldsKey_mem hk f hf
        obtain ⟨y, hy, hxy⟩ := hys.get h1
        have hy' : ys[f.offset]? = some y := by simpa using hy
        obtain ⟨d0, rfl⟩ : ∃ d0, d = d0 + 1 := ⟨d - 1, by omega⟩
        exact ⟨y, by simp [part, run_isAgg hA (scalarKey_agg h2), hy'], run_checkScalar hA hxy h2 empty d0⟩
      rw [← Sem.run_bind]
      refine run_forIn_unit fun f hf => ?_
      obtain ⟨y, g1, g2⟩ := this f hf
      by_cases hn : f.name = "_"
      · simp [hn]
      · simp [hn, g1, g2]
    · simp at hk
  · exact run_checkScalar hA hv hk empty d

/-- the entries' relation -/
theorem ERs.nil : ERs ρ [] [] := ⟨rfl, fun i x y hx => by simp at hx⟩
theorem ERs.of_cons {x : MapEntry} {xs ys : List MapEntry} (hs : ERs ρ (x :: xs) ys) : ∃ y ys', ys = y :: ys' ∧ VR ρ x.key y.key ∧ VR ρ x.val y.val ∧ x.born = y.born ∧ ERs ρ xs ys' := by
  cases ys with
  | nil => exact absurd hs.1 (by simp)
  | cons y ys =>
    obtain ⟨h1, h2, h3⟩ := hs.2 0 x y (by simp) (by simp)
    exact ⟨y, ys, rfl, h1, h2, h3, by simpa using hs.1, fun i a b ha hb => hs.2 (i + 1) a b (by simpa using ha) (by simpa using hb)⟩
theorem ERs.of_nil {ys : List MapEntry} (hs : ERs ρ [] ys) : ys = [] := by
  cases ys with
  | nil => rfl
  | cons y ys => exact absurd hs.1 (by simp)
theorem ERs.cons {x y : MapEntry} {xs ys : List MapEntry} (h1 : VR ρ x.key y.key) (h2 : VR ρ x.val y.val) (h3 : x.born = y.born) (hs : ERs ρ xs ys) : ERs ρ (x :: xs) (y :: ys) :=
  ⟨by simp [hs.1], fun i a b ha hb => by
    cases i with
    | zero => simp at ha hb; subst ha; subst hb; exact ⟨h1, h2, h3⟩
    | succ i => simp at ha hb; exact hs.2 i a b ha hb⟩
theorem ERs.append {xs ys xs' ys' : List MapEntry} (h1 : ERs ρ xs ys) (h2 : ERs ρ xs' ys') : ERs ρ (xs ++ xs') (ys ++ ys') := by
  induction xs generalizing ys with
  | nil => rw [ERs.of_nil h1]; exact h2
  | cons x xs ih => obtain ⟨y, ys2, rfl, a, b, c, d⟩ := ERs.of_cons h1; exact ERs.cons a b c (ih d)

theorem bytes_beq (s t : ByteArray) : (s == t) = true ↔ s = t := by
  cases s with | mk d => cases t with | mk d' =>
  show (d == d') = true ↔ _
  rw [beq_iff_eq]
  exact ⟨fun h => by rw [h], fun h => by cases h; rfl⟩

theorem keySame_rel {t : TypeId} {d : TypeDesc} {key key' x x' : Value} (hk : VR ρ key key') (hx : VR ρ x x') (hd : (∃ k, d = .int k ∧ ∃ kd m, key = .int kd m) ∨ (d = .string ∧ ∃ s, key = .string s)) {b : Bool} (hb : keySame key x = some b) :
    Instr.sameNow d key' x' = some b ∧ (b = true → x' = key') := by
  rcases hd with ⟨k, rfl, kd, m, rfl⟩ | ⟨rfl, s, rfl⟩
  · cases hk
    unfold keySame at hb
    simp only at hb
    split at hb
    · rename_i k' m'
      cases hx
      simp only [kindEq_eq, Bool.cond_decide, intEq_eq] at hb
      split at hb
      · rename_i he
        subst he
        simp only [Option.some.injEq] at hb
        subst hb
        refine ⟨by simp [Instr.sameNow]; rfl, fun hm => ?_⟩
        simp only [decide_eq_true_eq] at hm
        rw [hm]
      · simp at hb
    · simp at hb
  · cases hk
    unfold keySame at hb
    simp only at hb
    split at hb
    · rename_i s'
      cases hx
      simp only [bytesEq_eq, Option.some.injEq] at hb
      subst hb
      have hse : (s = s') ↔ s.data.toList = s'.data.toList := by
        constructor
        · rintro rfl; rfl
        · intro he; cases s; cases s'; simp only [ByteArray.mk.injEq]; exact Array.toList_inj.1 he
      refine ⟨?_, fun hm => ?_⟩
      · simp only [Instr.sameNow, Option.some.injEq]
        rw [Bool.eq_iff_iff, decide_eq_true_iff, ← hse]
        exact bytes_beq s s'
      · simp only [decide_eq_true_eq] at hm
        rw [hse.2 hm]
    · simp at hb

theorem find_rel {d : TypeDesc} {key key' : Value} (hk : VR ρ key key') : ∀ {es er : List MapEntry} {i : Nat} {r : Option (Nat × Value)}, ERs ρ es er → (es = [] ∨ (∃ k, d = .int k ∧ ∃ kd m, key = .int kd m) ∨ (d = .string ∧ ∃ s, key = .string s)) → findKeyF key es i = some r →
    (r = none ∧ Instr.findNow d key' er i = some none) ∨ ∃ j v v', r = some (j + i, v) ∧ Instr.findNow d key' er i = some (some (j + i, v')) ∧ VR ρ v v' ∧ j < es.length ∧ ∃ e, er[j]? = some e ∧ e.key = key'
  | [], er, i, r, hs, _, hf => by
    rw [ERs.of_nil hs]
    simp only [findKeyF, Option.some.injEq] at hf
    exact .inl ⟨hf.symm, rfl⟩
  | x :: xs, er, i, r, hs, hd, hf => by
    obtain ⟨y, ys, rfl, h1, h2, h3, h4⟩ := ERs.of_cons hs
    have hd' := hd.resolve_left (by simp)
    simp only [findKeyF] at hf
    split at hf
    · rename_i hb
      simp only [Option.some.injEq] at hf
      subst hf
      have hb' := (keySame_rel (t := 0) hk h1 hd' hb)
      refine .inr ⟨0, x.val, y.val, by simp, by simp [Instr.findNow, hb'.1], h2, by simp, y, by simp, hb'.2 rfl⟩
    · rename_i hb
      have hb' := (keySame_rel (t := 0) hk h1 hd' hb).1
      rcases find_rel hk (i := i + 1) h4 (.inr hd') hf with ⟨g1, g2⟩ | ⟨j, v, v', g1, g2, g3, g4, g5⟩
      · exact .inl ⟨g1, by simp [Instr.findNow, hb', g2]⟩
      · have e : j + 1 + i = j + (i + 1) := by omega
        refine .inr ⟨j + 1, v, v', by rw [e]; exact g1, by simp [Instr.findNow, hb', g2, e], g3, by simp; omega, by simpa using g5⟩
    · simp at hf

/-- the kind of a key -/
theorem plainKey_kind (hA : APOk P A) {t : TypeId} {key : Value} (hk : plainKey A t key = true) {es : List MapEntry} {r : Option (Nat × Value)} (hf : findKeyF key es 0 = some r) : ∃ d, P.underlying t = some d ∧ (es = [] ∨ (∃ k, d = .int k ∧ ∃ kd m, key = .int kd m) ∨ (d = .string ∧ ∃ s, key = .string s)) := by
  unfold plainKey at hk
  split at hk
  · rename_i cs
    split at hk
    · rename_i fs hu
      refine ⟨_, under_some hA hu, .inl ?_⟩
      cases es with
      | nil => rfl
      | cons e es => simp [findKeyF, keySame] at hf
    · simp at hk
  · rcases scalarKey_some hk with ⟨k, kd, m, hu, rfl⟩ | ⟨s, hu, rfl⟩
    · exact ⟨_, under_some hA hu, .inr (.inl ⟨k, rfl, kd, m, rfl⟩)⟩
    · exact ⟨_, under_some hA hu, .inr (.inr ⟨rfl, s, rfl⟩)⟩

theorem sim_lookupV (hA : APOk P A) (hw : WR P ρ h n B w0 w) {t : TypeId} {m m' key key' : Value} {ok : Bool} (hm : VR ρ m m') (hkey : VR ρ key key') : SimV P ρ w (lookupV A t m key ok h none some) (Instr.lookup t m' key' ok) := by
  intro v hv
  unfold lookupV at hv
  split at hv
  · rename_i kt el hu
    split at hv
    · rename_i es hes
      split at hv
      · rename_i z hz
        cases hk : plainKey A kt key with
        | false => simp [hk] at hv
        | true =>
          simp only [hk, cond_true] at hv
          -- the entries
          have hent : ∃ er : Array MapEntry, ERs ρ es er.toList ∧ ((m' = .map none ∧ er = #[]) ∨ ∃ r clock, m' = .map (some r) ∧ (getObj r).run P w = .ok (.map er clock) w) := by
            unfold entriesOf at hes
            split at hes
            · cases hm; simp only [Option.some.injEq] at hes; subst hes; exact ⟨#[], ERs.nil, .inl ⟨rfl, rfl⟩⟩
            · rename_i r
              cases hm with
              | @map b e he =>
                split at hes
                · rename_i es' clock hg
                  simp only [Option.some.injEq] at hes
                  subst hes
                  obtain ⟨er, g1, g2, g3⟩ := run_getMap (P := P) hw hg he
                  exact ⟨er, g3, .inr ⟨_, _, rfl, g1⟩⟩
                · simp at hes
            · simp at hes
          obtain ⟨er, hers, hrun⟩ := hent
          have hck : ∀ em, (Instr.checkKey em 10000 kt key').run P w = .ok () w := fun em => run_checkKey hA hkey hk em 9999 (by omega)
          split at hv
          · rename_i j x hf
            obtain ⟨d, hd1, hd2⟩ := plainKey_kind hA hk hf
            rcases find_rel hkey hers hd2 hf with ⟨g1, g2⟩ | ⟨j', v1, v2, g1, g2, g3, g4, g5⟩
            · simp at g1
            · simp only [Option.some.injEq, Prod.mk.injEq] at g1
              obtain ⟨rfl, rfl⟩ := g1
              have hfk : ∃ q, (Instr.findKey kt key' er.toList).run P w = .ok (some (q, v2)) w := ⟨j + 0, by
                simp only [Instr.findKey, underlying, Sem.run_bind, run_program, Result.andThen_ok, hd1, Sem.run_pure, g2]⟩
              obtain ⟨q, hfk⟩ := hfk
              cases ok with
              | true =>
                simp only [cond_true, Option.some.injEq] at hv
                subst hv
                refine ⟨.tuple #[v2, .bool true], ?_, VRs.toTuple (VRs.cons g3 (VRs.cons (.bool true) VRs.nil))⟩
                rcases hrun with ⟨rfl, rfl⟩ | ⟨r, clock, rfl, hg⟩
                · have hfk' : (Instr.findKey kt key' []).run P w = .ok (some (q, v2)) w := hfk
                  simp [Instr.lookup, run_under hA hu, hck, hfk']
                · simp [Instr.lookup, run_under hA hu, hg, hck, hfk]
              | false =>
                simp only [cond_false, Option.some.injEq] at hv
                subst hv
                refine ⟨v2, ?_, g3⟩
                rcases hrun with ⟨rfl, rfl⟩ | ⟨r, clock, rfl, hg⟩
                · have hfk' : (Instr.findKey kt key' []).run P w = .ok (some (q, v2)) w := hfk
                  simp [Instr.lookup, run_under hA hu, hck, hfk']
                · simp [Instr.lookup, run_under hA hu, hg, hck, hfk]
          · rename_i hf
            obtain ⟨d, hd1, hd2⟩ := plainKey_kind hA hk hf
            rcases find_rel hkey hers hd2 hf with ⟨g1, g2⟩ | ⟨j', v1, v2, g1, g2, g3, g4, g5⟩
            · have hfk : (Instr.findKey kt key' er.toList).run P w = .ok none w := by
                simp [Instr.findKey, underlying, hd1, g2]
              have hzr : VR ρ z z := VR.plainV (zero_plain hA hz)
              cases ok with
              | true =>
                simp only [cond_true, Option.some.injEq] at hv
                subst hv
                refine ⟨.tuple #[z, .bool false], ?_, VRs.toTuple (VRs.cons hzr (VRs.cons (.bool false) VRs.nil))⟩
                rcases hrun with ⟨rfl, rfl⟩ | ⟨r, clock, rfl, hg⟩
                · have hfk' : (Instr.findKey kt key' []).run P w = .ok none w := hfk
                  simp [Instr.lookup, run_under hA hu, hck, hfk', run_zero hA hz]
                · simp [Instr.lookup, run_under hA hu, hg, hck, hfk, run_zero hA hz]
              | false =>
                simp only [cond_false, Option.some.injEq] at hv
                subst hv
                refine ⟨z, ?_, hzr⟩
                rcases hrun with ⟨rfl, rfl⟩ | ⟨r, clock, rfl, hg⟩
                · have hfk' : (Instr.findKey kt key' []).run P w = .ok none w := hfk
                  simp [Instr.lookup, run_under hA hu, hck, hfk', run_zero hA hz]
                · simp [Instr.lookup, run_under hA hu, hg, hck, hfk, run_zero hA hz]
            · simp at g1
          · simp at hv
      · simp at hv
    · simp at hv
  · simp at hv
end
end Go.Am
end
section
set_option linter.unusedVariables false
namespace Go.Am
open Go Go.RowKit

section
variable {P : Program} {A : AP} {ρ : Rho} {h : T Ob} {n B : Nat} {w0 w : World}

theorem sim_shlV {kd kd' : IntKind} {a b : Int} {t : TypeId} :
    ∀ v, shlV kd a b none some = some v → (binOp .shl t (.int kd a) (.int kd' b)).run P w = .ok v w ∧ plainV v = true := by
  intro v hv
  unfold shlV at hv
  split at hv
  · rename_i a
    split at hv
    · rename_i b
      simp only [vint_eq, Option.some.injEq] at hv
      subst hv
      refine ⟨?_, rfl⟩
      have h1 : ¬ (Int.ofNat b < 0) := by simp
      have h2 : (cond (Nat.ble b kd.bits) b kd.bits) = min b kd.bits := by
        rw [natBle]
        by_cases h : b ≤ kd.bits
        · simp [h, Nat.min_eq_left h]
        · simp [h, Nat.min_eq_right (Nat.le_of_not_le h)]
      simp only [binOp, Op.shift, if_neg h1, Sem.run_pure, h2]
      simp
    · simp at hv
  · simp at hv

theorem sim_shrV {kd kd' : IntKind} {a b : Int} {t : TypeId} :
    ∀ v, shrV kd a b none some = some v → (binOp .shr t (.int kd a) (.int kd' b)).run P w = .ok v w ∧ plainV v = true := by
  intro v hv
  unfold shrV at hv
  split at hv
  · rename_i a
    split at hv
    · rename_i b
      simp only [natK_eq, Option.some.injEq] at hv
      subst hv
      refine ⟨?_, rfl⟩
      have h1 : ¬ (Int.ofNat b < 0) := by simp
      have h2 : (cond (Nat.ble b kd.bits) b kd.bits) = min b kd.bits := by
        rw [natBle]
        by_cases h : b ≤ kd.bits
        · simp [h, Nat.min_eq_left h]
        · simp [h, Nat.min_eq_right (Nat.le_of_not_le h)]
      simp only [binOp, Op.shift, if_neg h1, Sem.run_pure, h2]
      have h3 : (Int.ofNat a).fdiv (2 ^ min (Int.ofNat b).toNat kd.bits) = Int.ofNat (Nat.div a (Nat.pow 2 (min b kd.bits))) := by
        simp only [Int.ofNat_eq_natCast, Int.toNat_natCast]
        rw [show ((2 : Int) ^ min b kd.bits) = ((2 ^ min b kd.bits : Nat) : Int) by simp]
        rw [Int.fdiv_eq_ediv_of_nonneg _ (Int.natCast_nonneg _)]
        rfl
      rw [h3]
    · simp at hv
  · simp at hv

theorem sim_intBin {op : BinOp} {kd kd' : IntKind} {a b : Int} {t : TypeId} :
    ∀ v, intBin op kd a kd' b none some = some v → (binOp op t (.int kd a) (.int kd' b)).run P w = .ok v w ∧ plainV v = true := by
  intro v hv
  unfold intBin at hv
  split at hv
  · exact sim_shlV v hv
  · exact sim_shrV v hv
  · rename_i h1 h2
    rw [kindEq_eq, Bool.cond_decide] at hv
    split at hv
    · rename_i hk
      subst hk
      exact sim_intOp (by rintro rfl; exact h1 rfl) (by rintro rfl; exact h2 rfl) v hv
    · simp at hv

theorem bytes_toList (a : ByteArray) : a.toList = a.data.toList := ByteArray.toList_eq a

theorem bytesLess_lt : ∀ (x y : List UInt8), (!Op.bytesLess y x) = (Op.bytesLess x y || x == y)
  | [], [] => rfl
  | [], b :: y => by simp [Op.bytesLess]
  | a :: x, [] => by simp [Op.bytesLess]
  | a :: x, b :: y => by
    have ih := bytesLess_lt x y
    simp only [Op.bytesLess]
    by_cases h1 : a < b
    · have h2 : ¬ b < a := fun h => absurd (UInt8.lt_iff_toNat_lt.1 h) (by have := UInt8.lt_iff_toNat_lt.1 h1; omega)
      have h3 : (b == a) = false := by rw [beq_eq_false_iff_ne]; rintro rfl; exact h2 h1
      simp [h1, h2, h3]
    · by_cases h2 : b < a
      · have h3 : (a == b) = false := by rw [beq_eq_false_iff_ne]; rintro rfl; exact h1 h2
        have h4 : ((a :: x) == (b :: y)) = false := by rw [beq_eq_false_iff_ne]; intro hh; simp only [List.cons.injEq] at hh; rw [hh.1] at h3; simp at h3
        simp [h1, h2, h3]
      · have h3 : a = b := by
          have e1 : ¬ a.toNat < b.toNat := fun h => h1 (UInt8.lt_iff_toNat_lt.2 h)
          have e2 : ¬ b.toNat < a.toNat := fun h => h2 (UInt8.lt_iff_toNat_lt.2 h)
          exact UInt8.toNat_inj.1 (by omega)
        subst h3
        simp only [h1, decide_false, beq_self_eq_true, Bool.true_and, Bool.false_or, ih]
        congr 1
        simp

theorem sim_strOp {op : BinOp} {a b : ByteArray} {t : TypeId} :
    ∀ v, strOp op a.data.toList b.data.toList none some = some v → (binOp op t (.string a) (.string b)).run P w = .ok v w ∧ plainV v = true := by
  intro v hv
  have hb : (binOp op t (.string a) (.string b)) = Op.stringOp op a b := by cases op <;> rfl
  rw [hb]
  unfold Op.stringOp
  simp only [bytes_toList]
  have hbeq : ∀ x y : List UInt8, (x == y) = decide (x = y) := fun x y => by
    by_cases h : x = y
    · subst h; simp
    · simp [h]
  unfold strOp at hv
  split at hv
  · simp only [sAdd, lappK_eq, llen_eq, natBle, Bool.cond_decide] at hv
    split at hv
    · rename_i hl
      simp only [Option.some.injEq] at hv
      subst hv
      have hsz : ¬ (((a.size + b.size : Nat) : Int) > IntKind.i64.max) := by
        have e1 : a.size = a.data.toList.length := (Array.length_toList (xs := a.data)).symm
        have e2 : b.size = b.data.toList.length := (Array.length_toList (xs := b.data)).symm
        have e3 : IntKind.i64.max = 9223372036854775807 := by decide
        rw [e3]
        simp only [List.length_append] at hl
        omega
      refine ⟨?_, rfl⟩
      simp only [if_neg hsz, Sem.run_pure, Result.ok.injEq, and_true, Value.string.injEq, str]
      have : (a ++ b).data.toList = a.data.toList ++ b.data.toList := by
        rw [ByteArray.data_append]; simp
      generalize a ++ b = c at this
      cases c
      simp only at this
      rw [← this]
    · simp at hv
  · simp only [sEql, vbool_eq, Option.some.injEq] at hv; subst hv; exact ⟨by rw [bytesEq_eq, ← hbeq]; rfl, rfl⟩
  · simp only [sNeq, vbool_eq, Option.some.injEq] at hv; subst hv; exact ⟨by rw [bytesEq_eq, ← hbeq]; rfl, rfl⟩
  · simp only [sLss, vbool_eq, Option.some.injEq] at hv; subst hv; exact ⟨by simp [bytesLt_eq], rfl⟩
  · simp only [sLeq, vbool_eq, Option.some.injEq] at hv; subst hv; exact ⟨by show Result.ok (Value.bool (_ || _)) w = _; rw [bytesLt_eq, bytesLess_lt], rfl⟩
  · simp only [sGtr, vbool_eq, Option.some.injEq] at hv; subst hv; exact ⟨by show Result.ok (Value.bool (!(_ || _))) w = _; rw [bytesLt_eq, ← bytesLess_lt, Bool.not_not], rfl⟩
  · simp only [sGeq, vbool_eq, Option.some.injEq] at hv; subst hv; exact ⟨by simp only [bytesLt_eq, Sem.run_pure], rfl⟩
  · simp [sNo] at hv

/-- equality, where it is sure -/
theorem run_eqS (hA : APOk P A) {t : TypeId} {x y x' y' : Value} {b : Bool} (hx : VR ρ x x') (hy : VR ρ y y') (he : eqS A t x y = some b) (d : Nat) : (Op.equalIn (d + 1) t x' y').run P w = .ok b w := by
  unfold eqS at he
  split at he
  · rename_i hu
    split at he
    · rename_i a b'
      cases hx; cases hy
      simp only [Option.some.injEq] at he
      subst he
      rw [Op.equalIn, Sem.run_bind, run_under hA hu, Result.andThen_ok]
      cases a <;> cases b' <;> rfl
    · simp at he
  · rename_i k hu
    split at he
    · rename_i k1 a k2 b'
      cases hx; cases hy
      rw [kindEq_eq, Bool.cond_decide] at he
      split at he
      · rename_i hk
        subst hk
        simp only [Option.some.injEq, intEq_eq] at he
        subst he
        rw [Op.equalIn, Sem.run_bind, run_under hA hu, Result.andThen_ok]
        show (if k1 = k1 then pure (a == b') else stuck "==: kinds differ" : Sem Bool).run P w = _
        rw [if_pos rfl]
        rfl
      · simp at he
    · simp at he
  · rename_i hu
    split at he
    · rename_i a b'
      cases hx; cases hy
      simp only [Option.some.injEq, bytesEq_eq] at he
      subst he
      rw [Op.equalIn, Sem.run_bind, run_under hA hu, Result.andThen_ok]
      show (Result.ok (a == b') w : Result Bool) = _
      simp only [Result.ok.injEq, and_true]
      rw [Bool.eq_iff_iff, bytes_beq, decide_eq_true_iff]
      constructor
      · rintro rfl; rfl
      · intro hh; cases a; cases b'; simp only [ByteArray.mk.injEq]; exact Array.toList_inj.1 hh
    · simp at he
  · rename_i el hu
    split at he
    · cases hx; cases hy
      simp only [Option.some.injEq] at he; subst he
      rw [Op.equalIn, Sem.run_bind, run_under hA hu, Result.andThen_ok]; rfl
    · cases hx; cases hy
      simp only [Option.some.injEq] at he; subst he
      rw [Op.equalIn, Sem.run_bind, run_under hA hu, Result.andThen_ok]; rfl
    · cases hx; cases hy
      simp only [Option.some.injEq] at he; subst he
      rw [Op.equalIn, Sem.run_bind, run_under hA hu, Result.andThen_ok]; rfl
    · rename_i b1 o1 b2 o2
      cases hx with
      | @ptr _ _ e1 h1 =>
        cases hy with
        | @ptr _ _ e2 h2 =>
          split at he
          · rename_i s hs
            rw [natBeq, Bool.cond_decide] at he
            split at he
            · rename_i hbb
              subst hbb
              rw [h1] at h2
              cases h2
              simp only [Option.some.injEq, natBeq] at he
              subst he
              rw [Op.equalIn, Sem.run_bind, run_under hA hu, Result.andThen_ok]
              show (do if (← sizeOf el) ≠ 0 then sameAddr ⟨e1.r, o1, none⟩ ⟨e1.r, o2, none⟩ else _ : Sem Bool).run P w = _
              rw [Sem.run_bind, run_sizeOf hA hs, Result.andThen_ok, if_pos (by simp)]
              simp only [sameAddr, beq_self_eq_true, if_true, Sem.run_pure, Result.ok.injEq, and_true]
              rw [Bool.eq_iff_iff, decide_eq_true_iff]
              constructor
              · intro hh; simpa using hh
              · rintro rfl; simp
            · simp at he
          · simp at he
    · simp at he
  · rename_i ms hu
    split at he
    · cases hx; cases hy
      split at he
      · simp only [Option.some.injEq] at he; subst he
        rw [Op.equalIn, Sem.run_bind, run_under hA hu, Result.andThen_ok]; rfl
      · simp at he
    · cases hx; cases hy
      simp only [Option.some.injEq] at he; subst he
      rw [Op.equalIn, Sem.run_bind, run_under hA hu, Result.andThen_ok]; rfl
    · cases hx; cases hy
      simp only [Option.some.injEq] at he; subst he
      rw [Op.equalIn, Sem.run_bind, run_under hA hu, Result.andThen_ok]; rfl
    · simp at he
  · rename_i el hu
    split at he
    · cases hx; cases hy
      simp only [Option.some.injEq] at he; subst he
      rw [Op.equalIn, Sem.run_bind, run_under hA hu, Result.andThen_ok]; rfl
    · cases hx; cases hy <;>
      (simp only [Option.some.injEq] at he; subst he
       rw [Op.equalIn, Sem.run_bind, run_under hA hu, Result.andThen_ok]; rfl)
    · cases hy; cases hx <;>
      (simp only [Option.some.injEq] at he; subst he
       rw [Op.equalIn, Sem.run_bind, run_under hA hu, Result.andThen_ok]; rfl)
    · simp at he
  · rename_i k el hu
    split at he
    · cases hx; cases hy
      simp only [Option.some.injEq] at he; subst he
      rw [Op.equalIn, Sem.run_bind, run_under hA hu, Result.andThen_ok]; rfl
    · cases hx; cases hy
      simp only [Option.some.injEq] at he; subst he
      rw [Op.equalIn, Sem.run_bind, run_under hA hu, Result.andThen_ok]; rfl
    · cases hx; cases hy
      simp only [Option.some.injEq] at he; subst he
      rw [Op.equalIn, Sem.run_bind, run_under hA hu, Result.andThen_ok]; rfl
    · simp at he
  · rename_i a b' c hu
    split at he
    · cases hx; cases hy
      simp only [Option.some.injEq] at he; subst he
      rw [Op.equalIn, Sem.run_bind, run_under hA hu, Result.andThen_ok]; rfl
    · cases hx; cases hy <;>
      (simp only [Option.some.injEq] at he; subst he
       rw [Op.equalIn, Sem.run_bind, run_under hA hu, Result.andThen_ok]; rfl)
    · cases hy; cases hx <;>
      (simp only [Option.some.injEq] at he; subst he
       rw [Op.equalIn, Sem.run_bind, run_under hA hu, Result.andThen_ok]; rfl)
    · simp at he
  · simp at he


theorem run_under' {t : TypeId} {d : TypeDesc} (hu : P.underlying t = some d) : (underlying t).run P w = .ok d w := by
  simp [underlying, hu]
theorem run_partInt {t : TypeId} {k : IntKind} (hu : P.underlying t = some (.int k)) {xs : Array Value} {o : Nat} {v : Value} (hv : xs[o]? = some v) : (part t xs o).run P w = .ok v w := by
  simp [part, Go.isAgg, run_under' hu, hv]
theorem run_eqInt {t : TypeId} {k : IntKind} (hu : P.underlying t = some (.int k)) {kd : IntKind} {a b : Int} (d : Nat) : (Op.equalIn (d + 1) t (.int kd a) (.int kd b)).run P w = .ok (decide (a = b)) w := by
  rw [Op.equalIn, Sem.run_bind, run_under' hu, Result.andThen_ok]
  show (if kd = kd then pure (a == b) else stuck "==: kinds differ" : Sem Bool).run P w = _
  rw [if_pos rfl]
  rfl

theorem run_eqLoop {xs ys : List Value} {xs' ys' : Array Value} (hx : VRs ρ xs xs'.toList) (hy : VRs ρ ys ys'.toList) (d : Nat) : ∀ (fs : List Field) (b : Bool), (∀ f ∈ fs, f.name ≠ "_" ∧ ∃ k, P.underlying f.type = some (.int k)) → eqFields fs xs ys = some b →
    (forIn fs ((none, ()) : Option Bool × Unit) fun (f : Field) (__s : Option Bool × Unit) =>
              if f.name ≠ "_" then do
                let __do_lift ← part f.type xs' f.offset
                let __do_lift_1 ← part f.type ys' f.offset
                let __do_lift ← Op.equalIn (d + 1) f.type __do_lift __do_lift_1
                if (!__do_lift) = true then pure (ForInStep.done (some false, ()))
                  else pure (ForInStep.yield (none, ()))
              else pure (ForInStep.yield (none, ()))).run P w = .ok (if b then (none, ()) else (some false, ())) w
  | [], b, _, he => by
    simp only [eqFields, Option.some.injEq] at he
    subst he
    rfl
  | f :: fs, b, hf, he => by
    simp only [eqFields, lnth_eq] at he
    obtain ⟨hn, k, hu⟩ := hf f (by simp)
    split at he
    · rename_i kd a ha
      split at he
      · rename_i kd' b' hb'
        rw [kindEq_eq, Bool.cond_decide] at he
        split at he
        · rename_i hk
          subst hk
          obtain ⟨x', hx1, hx2⟩ := hx.get ha
          obtain ⟨y', hy1, hy2⟩ := hy.get hb'
          cases hx2; cases hy2
          have hx1' : xs'[f.offset]? = some (.int kd a) := by simpa using hx1
          have hy1' : ys'[f.offset]? = some (.int kd b') := by simpa using hy1
          rw [List.forIn_cons]
          simp only [if_pos hn, Sem.run_bind, run_partInt hu hx1', run_partInt hu hy1', run_eqInt hu d, Result.andThen_ok]
          rw [intEq_eq, Bool.cond_decide] at he
          split at he
          · rename_i hab
            simp only [hab, decide_true, Bool.not_true, Bool.false_eq_true, if_false, Sem.run_pure, Result.andThen_ok]
            exact run_eqLoop hx hy d fs b (fun g hg => hf g (by simp [hg])) he
          · rename_i hab
            simp only [Option.some.injEq] at he
            subst he
            simp only [hab, decide_false, Bool.not_false, if_true, Sem.run_pure, Result.andThen_ok]
            rfl
        · simp at he
      · simp at he
    · simp at he

theorem run_eqAgg (hA : APOk P A) {t : TypeId} {fs : Array Field} {xs ys : List Value} {xs' ys' : Array Value} {b : Bool} (hx : VRs ρ xs xs'.toList) (hy : VRs ρ ys ys'.toList)
  (hu : under A t = some (.struct fs)) (hp : natIn t A.plain = true) (he : eqFields fs.toList xs ys = some b) (d : Nat) : (Op.equalIn (d + 2) t (.agg xs') (.agg ys')).run P w = .ok b w := by
  obtain ⟨h1, h2⟩ := hA.plain t hp
  have h3 := h2 fs (under_some hA hu)
  rw [Op.equalIn, Sem.run_bind, run_under hA hu, Result.andThen_ok]
  simp only [Sem.run_bind, run_program, Result.andThen_ok, h1, Bool.false_eq_true, if_false]
  rw [← Array.forIn_toList, run_eqLoop hx hy d fs.toList b h3 he]
  cases b <;> rfl

theorem sim_eqF (hA : APOk P A) {t : TypeId} {x y x' y' : Value} {b : Bool} (hx : VR ρ x x') (hy : VR ρ y y') (he : eqF A t x y = some b) : (Op.equal t x' y').run P w = .ok b w := by
  unfold eqF at he
  split at he
  · rename_i xs
    split at he
    · rename_i ys
      obtain ⟨xs', rfl, h1⟩ := VRs.ofAgg hx
      obtain ⟨ys', rfl, h2⟩ := VRs.ofAgg hy
      split at he
      · rename_i fs hu
        cases hn : natIn t A.plain with
        | false => rw [hn] at he; simp at he
        | true =>
          rw [hn] at he
          exact run_eqAgg hA h1 h2 hu hn he 9998
      · simp at he
    · simp at he
  · exact run_eqS hA hx hy he 9999

theorem binOp_other {op : BinOp} {t : TypeId} {x y : Value} (hi : ∀ k n, x ≠ .int k n) (hs : ∀ s, x ≠ .string s) (hf : ∀ k n, x ≠ .float k n) (hc : ∀ k a b, x ≠ .complex k a b) :
    (op = .eql → binOp op t x y = (do pure (.bool (← Op.equal t x y)))) ∧ (op = .neq → binOp op t x y = (do pure (.bool (!(← Op.equal t x y))))) := by
  refine ⟨?_, ?_⟩ <;> rintro rfl
  · cases x <;> first
      | exact absurd rfl (hi _ _)
      | exact absurd rfl (hs _)
      | exact absurd rfl (hf _ _)
      | exact absurd rfl (hc _ _ _)
      | (cases y <;> rfl)
  · cases x <;> first
      | exact absurd rfl (hi _ _)
      | exact absurd rfl (hs _)
      | exact absurd rfl (hf _ _)
      | exact absurd rfl (hc _ _ _)
      | (cases y <;> rfl)

theorem VR.shape {x x' : Value} (hx : VR ρ x x') : ((∀ k n, x ≠ .int k n) → ∀ k n, x' ≠ .int k n) ∧ ((∀ s, x ≠ .string s) → ∀ s, x' ≠ .string s) ∧ ((∀ k n, x ≠ .float k n) → ∀ k n, x' ≠ .float k n) ∧ ((∀ k a b, x ≠ .complex k a b) → ∀ k a b, x' ≠ .complex k a b) := by
  refine ⟨fun h k n hh => ?_, fun h k hh => ?_, fun h k n hh => ?_, fun h k a b hh => ?_⟩ <;> subst hh <;> cases hx
  · exact h _ _ rfl
  · exact h _ rfl
  · exact h _ _ rfl
  · exact h _ _ _ rfl

theorem sim_binOpV (hA : APOk P A) {op : BinOp} {t : TypeId} {x y x' y' : Value} (hx : VR ρ x x') (hy : VR ρ y y') : SimV P ρ w (binOpV A op t x y none some) (binOp op t x' y') := by
  unfold binOpV
  split
  · rename_i kd a
    split
    · rename_i kd' b
      cases hx; cases hy
      exact SimV.same (sim_intBin)
    · intro v hv; simp at hv
  · rename_i a
    split
    · rename_i b
      cases hx; cases hy
      exact SimV.same sim_strOp
    · intro v hv; simp at hv
  · intro v hv; simp at hv
  · intro v hv; simp at hv
  · rename_i hn1 hn2 hn3 hn4
    obtain ⟨s1, s2, s3, s4⟩ := hx.shape
    obtain ⟨g1, g2⟩ := binOp_other (op := op) (t := t) (x := x') (y := y') (s1 (fun k n hh => hn1 k n hh)) (s2 (fun s hh => hn2 s hh)) (s3 (fun k n hh => hn3 k n hh)) (s4 (fun k a b hh => hn4 k a b hh))
    intro v hv
    cases op with
    | eql =>
      simp only [otherOp, eqV] at hv
      split at hv
      · rename_i b he
        simp only [vbool_eq, Option.some.injEq] at hv
        subst hv
        exact ⟨.bool b, by rw [g1 rfl, Sem.run_bind, sim_eqF hA hx hy he]; rfl, .bool b⟩
      · exact absurd hv (by simp)
    | neq =>
      simp only [otherOp, neqV] at hv
      split at hv
      · rename_i b he
        simp only [vbool_eq, Option.some.injEq] at hv
        subst hv
        exact ⟨.bool !b, by rw [g2 rfl, Sem.run_bind, sim_eqF hA hx hy he]; rfl, .bool _⟩
      · exact absurd hv (by simp)
    | _ => simp [otherOp, noV] at hv

/-! the guard of comparisons -/
theorem eqGuardType_plain (hA : APOk P A) {t : TypeId} {fs : Array Field} (hu : under A t = some (.struct fs)) (hp : natIn t A.plain = true) : P.eqGuardType P.depth t = false := by
  obtain ⟨_, h2⟩ := hA.plain t hp
  have h3 := h2 fs (under_some hA hu)
  have : ∃ m, P.depth = m + 2 := ⟨2 * (P.types.size + Made.depth), rfl⟩
  obtain ⟨m, hm⟩ := this
  rw [hm]
  unfold Program.eqGuardType
  rw [under_some hA hu]
  simp only
  rw [← Bool.not_eq_true, Array.any_eq_true]
  rintro ⟨i, hi, hh⟩
  obtain ⟨_, k, hk⟩ := h3 fs[i] (by simp)
  simp [Program.eqGuardType, hk] at hh

theorem run_guard (hA : APOk P A) {op : BinOp} {t : TypeId} {x y : Operand} {a b a' b' : Value} (ha : VR ρ a a') (hb : VR ρ b b') {v : Value} (hv : binOpV A op t a b none some = some v) (hno : ¬ (a = .nilIface ∧ b = .nilIface)) :
    (eqGuard op t x y a' b').run P w = .ok () w := by
  unfold eqGuard
  cases op with
  | eql | neq =>
    cases ha with
    | nilIface =>
      cases hb with
      | nilIface => exact absurd ⟨rfl, rfl⟩ hno
      | _ => rfl
    | @agg xs xs' h1 h2 =>
      cases hb with
      | @agg ys ys' h3 h4 =>
        have hx : VR ρ (.agg xs) (.agg xs') := .agg h1 h2
        simp only [binOpV, otherOp, eqV, neqV, eqF] at hv
        split at hv
        · rename_i b' he
          split at he
          · rename_i fs hu
            cases hn : natIn t A.plain with
            | false => rw [hn] at he; simp at he
            | true => simp [eqGuardType_plain hA hu hn]
          · simp at he
        · simp at hv
      | _ => rfl
    | _ => cases hb <;> rfl
  | _ => rfl

theorem run_guardNil (hA : APOk P A) {op : BinOp} {t : TypeId} {x y : Operand} {ms : Array (String × TypeId)} (hu : under A t = some (.interface ms)) (hc : ((isConstO x || isConstO y) || ms.toList.isEmpty) = true) :
    (eqGuard op t x y .nilIface .nilIface).run P w = .ok () w := by
  have key : ms.toList.isEmpty = true → (do if ← Op.eqGuardIn Op.maxDepth t .nilIface .nilIface then unsupported (.noEntry "binop/eql: two nil values of an interface type with methods, neither of them the literal nil") : Sem Unit).run P w = .ok () w := by
    intro hc
    have hms : ms.isEmpty = true := by rw [List.isEmpty_iff] at hc; simpa using hc
    have : (Op.eqGuardIn Op.maxDepth t .nilIface .nilIface).run P w = .ok false w := by
      rw [show Op.maxDepth = 9999 + 1 from rfl, Op.eqGuardIn, Sem.run_bind, run_under hA hu, Result.andThen_ok]
      show (pure (!ms.isEmpty) : Sem Bool).run P w = _
      rw [hms]; rfl
    rw [Sem.run_bind, this]; rfl
  cases op with
  | eql | neq =>
    cases x with
    | const v => rfl
    | _ =>
      cases y with
      | const v => rfl
      | _ =>
        simp only [isConstO, Bool.or_self, Bool.false_or] at hc
        exact key hc
  | _ => rfl

theorem sim_xBinOp (hA : APOk P A) (hw : WR P ρ h n B w0 w) {tm : T Value} {op : BinOp} {t : TypeId} {x y : Operand} {x' y' : Value} (hx : VR ρ (ev tm x) x') (hy : VR ρ (ev tm y) y') :
    Sim P ρ h n B w0 w (xBinOp op t x y A tm h n) (asNext (do eqGuard op t x y x' y'; binOp op t x' y')) := by
  have key : ∀ {a b : Value}, ev tm x = a → ev tm y = b → ¬ (a = .nilIface ∧ b = .nilIface) → Sim P ρ h n B w0 w (ofV 129 h n (binOpV A op t a b none some)) (asNext (do eqGuard op t x y x' y'; binOp op t x' y')) := by
    intro a b ha hb hno
    rw [ha] at hx
    rw [hb] at hy
    refine Sim.ofV hw fun v hv => ?_
    obtain ⟨v', h1, h2⟩ := sim_binOpV hA hx hy v hv
    exact ⟨v', by rw [Sem.run_bind, run_guard hA hx hy hv hno]; exact h1, h2⟩
  unfold xBinOp
  split
  · rename_i hxe
    split
    · rename_i hye
      split
      · rename_i ms hu
        cases hc : ((isConstO x || isConstO y) || ms.toList.isEmpty) with
        | false => exact Sim.fail
        | true =>
          simp only [cond_true]
          rw [hxe] at hx
          rw [hye] at hy
          cases hx; cases hy
          have hg : (eqGuard op t x y .nilIface .nilIface).run P w = .ok () w := run_guardNil hA hu hc
          have heq : (Op.equal t .nilIface .nilIface).run P w = .ok true w := by
            unfold Op.equal
            rw [show Op.maxDepth = 9999 + 1 from rfl, Op.equalIn, Sem.run_bind, run_under hA hu, Result.andThen_ok]; rfl
          split
          · refine Sim.val hw (v' := .bool true) ?_ (.bool true)
            rw [Sem.run_bind, hg]
            show (do pure (.bool (← Op.equal t .nilIface .nilIface)) : Sem Value).run P w = _
            rw [Sem.run_bind, heq]; rfl
          · refine Sim.val hw (v' := .bool false) ?_ (.bool false)
            rw [Sem.run_bind, hg]
            show (do pure (.bool (!(← Op.equal t .nilIface .nilIface))) : Sem Value).run P w = _
            rw [Sem.run_bind, heq]; rfl
          · exact Sim.fail
      · exact Sim.fail
    · rename_i hne
      exact key hxe rfl fun hh => hne hh.2
  · rename_i hne
    exact key rfl rfl fun hh => hne hh.1

/-! one operand -/
theorem sim_unOpV {op : UnOp} {x x' : Value} (hx : VR ρ x x') : SimV P ρ w (unOpV op x none some) (Op.unary op x') := by
  intro v hv
  unfold unOpV at hv
  split at hv
  · split at hv
    · rename_i k m
      cases hx
      simp only [vint_eq, Option.some.injEq] at hv
      subst hv
      exact ⟨_, rfl, .int _ _⟩
    · simp at hv
  · split at hv
    · rename_i m
      cases hx
      simp only [vint_eq, Option.some.injEq] at hv
      subst hv
      refine ⟨_, ?_, .int _ _⟩
      show (Op.intBits .xor .i64 (-1) m).run P w = _
      unfold Op.intBits
      simp only [Sem.run_pure, Result.ok.injEq, and_true, Value.int.injEq, true_and]
      have h1 : (BitVec.ofInt IntKind.i64.bits (-1) ^^^ BitVec.ofInt IntKind.i64.bits m) = ~~~ (BitVec.ofInt IntKind.i64.bits m) := by
        rw [show BitVec.ofInt IntKind.i64.bits (-1) = BitVec.allOnes IntKind.i64.bits from rfl, BitVec.allOnes_xor]
      rw [h1, BitVec.toNat_not, BitVec.toNat_ofInt]
      have h2 : IntKind.i64.wrap (Int.sub (-1) m) = IntKind.i64.wrap (Int.sub (-1) m % (2 ^ IntKind.i64.bits : Int)) := (wrap_mod _ _).symm
      rw [h2]
      congr 1
      simp only [IntKind.bits]
      show _ = ((-1 : Int) - m) % (2 ^ 64 : Int)
      omega
    · simp at hv
  · split at hv
    · rename_i b
      cases hx
      simp only [vbool_eq, Option.some.injEq] at hv
      subst hv
      exact ⟨_, rfl, .bool _⟩
    · simp at hv
  · simp at hv
end
end Go.Am
end
section
set_option linter.unusedVariables false
namespace Go.Am
open Go Go.RowKit

section
variable {P : Program} {A : AP} {ρ : Rho} {h h' : T Ob} {n B : Nat} {w0 w : World}

theorem byteVals_eq {β : Type} : ∀ (l : List UInt8) (k : List Value → β), byteVals l k = k (l.map fun b => .int .u8 (.ofNat b.toNat))
  | [], k => rfl
  | b :: l, k => by
    show natK b.toNat (fun n => byteVals l fun l => k (.int .u8 (.ofNat n) :: l)) = _
    rw [natK_eq, byteVals_eq l]; rfl

theorem VRs.bytes (l : List UInt8) : VRs ρ (l.map fun b => .int .u8 (.ofNat b.toNat)) (l.map fun b => .int .u8 (.ofNat b.toNat)) := by
  induction l with
  | nil => exact VRs.nil
  | cons b l ih => exact VRs.cons (.int _ _) ih

/-- the first cells of a slice or a text -/
theorem sim_firstK (hw : WR P ρ h n B w0 w) {size m : Nat} {x x' : Value} (hx : VR ρ x x') (hm : ∀ a l c, x = .slice (some a) l c → m ≤ l) {cs : List Value} (hf : firstK size m x h none some = some cs) :
    ∃ vs : List Value, (Builtin.firstCells size m x').run P w = .ok vs.toArray w ∧ VRs ρ cs vs := by
  unfold firstK at hf
  split at hf
  · rename_i b o l c
    split at hf
    · rename_i cc el lo hi hb
      simp only [ldrop_eq, ltakeK_eq, natMul] at hf
      split at hf
      · rename_i hle
        simp only [Option.some.injEq] at hf
        subst hf
        have hml := hm _ _ _ rfl
        have key : ∀ {e : Ent}, ρ b = some e → ∃ vs : List Value, (Go.loadCells ⟨e.r, o, none⟩ (m * size)).run P w = .ok vs.toArray w ∧ VRs ρ ((cc.drop o).take (m * size)) vs := by
          intro e he
          obtain ⟨cr, flo, fhi, h1, h2, h3, h4, h5, h6, h7⟩ := hw.cells hb he
          obtain ⟨vs, g1, g2, g3⟩ := stretch h5 hle
          exact ⟨vs, run_loadCells (P := P) (w := w) (r := e.r) (o := o) g1 (fun j x hx => by rw [cell_of h1]; exact g2 j x hx), g3⟩
        cases hx with
        | slice he hc => exact key he
        | @loose _ _ o' _ c0 c' e he h1 h2 h3 h4 =>
          by_cases hc' : c' = 0
          · have hm0 : m = 0 := by omega
            subst hm0
            refine ⟨[], by simp [Builtin.firstCells, Go.loadCells, loadCellsFrom], ?_⟩
            simp only [Nat.zero_mul, List.take_zero]
            exact VRs.nil
          · obtain ⟨rfl, _⟩ := h4 hc'
            exact key he
      · simp at hf
    · simp at hf
  · simp only [Option.some.injEq] at hf
    subst hf
    cases hx
    exact ⟨[], by simp [Builtin.firstCells], VRs.nil⟩
  · rename_i s
    cases hx
    rw [byteVals_eq, ltakeK_eq, natBeq, Bool.cond_decide] at hf
    split at hf
    rotate_left
    · simp at hf
    split at hf
    · rename_i hle
      simp only [Option.some.injEq] at hf
      subst hf
      refine ⟨(s.data.toList.map fun b => Value.int .u8 (.ofNat b.toNat)).take m, ?_, ?_⟩
      · simp only [Builtin.firstCells, Sem.run_pure, Result.ok.injEq, and_true]
        apply Array.toList_inj.1
        have he : (s.extract 0 m).data.toList = s.data.toList.take m := by
          rw [ByteArray.data_extract]; simp
        simp only [Array.toList_map, he, List.map_take]
        rfl
      · rw [← List.map_take]; exact VRs.bytes _
    · simp at hf
  · simp at hf

theorem firstK_map {β : Type} (size m : Nat) (x : Value) (h : T Ob) (f : β) (k : List Value → β) : firstK size m x h f k = match firstK size m x h none some with | some cs => k cs | none => f := by
  unfold firstK
  split
  · split
    · simp only [ltakeK_eq]; split <;> simp
    · rfl
  · rfl
  · simp only [byteVals_eq, ltakeK_eq, natBeq, Bool.cond_decide]
    split
    · split <;> simp
    · rfl
  · rfl
theorem firstK_len {size m : Nat} {x : Value} {cs : List Value} (hf : firstK size m x h none some = some cs) : cs.length ≤ m * size ∧ ((∀ l c, x = .slice none l c → m = 0) → cs.length = m * size) := by
  unfold firstK at hf
  split at hf
  · split at hf
    · simp only [ldrop_eq, ltakeK_eq, natMul] at hf
      split at hf
      · rename_i hle
        simp only [Option.some.injEq] at hf
        subst hf
        rw [List.length_take]
        omega
      · simp at hf
    · simp at hf
  · simp only [Option.some.injEq] at hf
    subst hf
    exact ⟨by simp, fun hh => by simp [hh _ _ rfl]⟩
  · rw [byteVals_eq, ltakeK_eq, natBeq, Bool.cond_decide] at hf
    split at hf
    · rename_i hs
      subst hs
      split at hf
      · simp only [Option.some.injEq] at hf
        subst hf
        rw [List.length_take]
        omega
      · simp at hf
    · simp at hf
  · simp at hf

theorem srcLen_rel {x x' : Value} (hx : VR ρ x x') {m : Nat} (hm : srcLen x = some m) : (Builtin.lenOf x').run P w = .ok m w ∧ (∀ a l c, x = .slice (some a) l c → m ≤ l) ∧ (∀ l c, x = .slice none l c → m = 0) := by
  unfold srcLen at hm
  split at hm
  · rw [natBeq, Bool.cond_decide] at hm
    split at hm
    · rename_i h0
      simp only [Option.some.injEq] at hm
      subst h0; subst hm
      exact ⟨by cases hx; rfl, fun a l c hh => by simp at hh, fun l c hh => rfl⟩
    · simp at hm
  · simp only [Option.some.injEq] at hm
    subst hm
    exact ⟨by cases hx <;> rfl, fun a l c hh => by cases hh; exact Nat.le_refl _, fun l c hh => by simp at hh⟩
  · simp only [Option.some.injEq] at hm
    subst hm
    exact ⟨by cases hx; rfl, fun a l c hh => by simp at hh, fun l c hh => by simp at hh⟩
  · simp at hm

theorem sim_copyX (hA : APOk P A) (hw : WR P ρ h n B w0 w) {t ty : TypeId} {d d' s s' : Value} (hd : VR ρ d d') (hs : VR ρ s s') {ts : Array TypeId} (hts : ts[0]? = some t) :
    Sim P ρ h n B w0 w (copyX A t d s h n) (asNext (Builtin.copy_ ts ty #[d', s'])) := by
  unfold copyX
  split
  · rename_i base len cap
    split
    · rename_i el hu
      split
      · rename_i size hsz
        split
        · rename_i xn hxn
          simp only [natK_eq]
          obtain ⟨hl, hle, _⟩ := srcLen_rel (P := P) (w := w) hs hxn
          have hmin : cond (Nat.ble xn len) xn len = Nat.min xn len := by
            rw [natBle, Bool.cond_decide]; show _ = min xn len; rw [Nat.min_def]
          rw [hmin, firstK_map]
          have hmx : Nat.min xn len ≤ xn := Nat.min_le_left _ _
          have hml : Nat.min xn len ≤ len := Nat.min_le_right _ _
          generalize hmm : Nat.min xn len = m at hmx hml
          split
          · rename_i cs hf
            obtain ⟨vs, g1, g2⟩ := sim_firstK (P := P) hw hs (fun a l c hh => Nat.le_trans hmx (hle a l c hh)) hf
            have hrun : ∀ base' cap', d' = .slice base' len cap' → (Builtin.copy_ ts ty #[d', s']).run P w = (match base' with | some a => (storeCells a vs).run P w | none => .ok () w).andThen fun _ w' => .ok (goInt (m : Nat)) w' := by
              intro base' cap' hd'
              subst hd'
              simp only [Builtin.copy_, hts]
              show Sem.run P (underlying t >>= _) w = _
              rw [Sem.run_bind, run_under hA hu, Result.andThen_ok]
              show Sem.run P (Builtin.lenOf s' >>= _) w = _
              rw [Sem.run_bind, hl, Result.andThen_ok]
              show Sem.run P (sizeOf el >>= _) w = _
              rw [Sem.run_bind, run_sizeOf hA hsz, Result.andThen_ok]
              show Sem.run P (Builtin.firstCells size (Nat.min xn len) s' >>= _) w = _
              rw [Sem.run_bind, hmm, g1, Result.andThen_ok]
              cases base' with
              | none => rfl
              | some a => simp only [Sem.run_bind]; rfl
            have hz : ∀ a : Addr, m = 0 → ((storeCells a vs).run P w).andThen (fun _ w' => .ok (goInt (m : Nat)) w') = .ok (goInt (m : Nat)) w := by
              intro a hm0
              have h1 := (firstK_len hf).1
              rw [hm0, Nat.zero_mul] at h1
              have : cs = [] := List.eq_nil_of_length_eq_zero (by omega)
              subst this
              rw [VRs.of_nil g2]
              rfl
            split
            · cases hd with
              | nilSlice => exact Sim.val hw (v' := .int .i64 (.ofNat m)) (by rw [hrun _ _ rfl]; rfl) (.int _ _)
            · rename_i b o
              split
              · rename_i c e lo hi hb
                rw [natBeq, Bool.cond_decide]
                have hd2 := hd
                split
                · rename_i hm0
                  have : ∃ a' cap', d' = .slice (some a') len cap' := by cases hd2 <;> exact ⟨_, _, rfl⟩
                  obtain ⟨a', cap', rfl⟩ := this
                  exact Sim.val hw (v' := .int .i64 (.ofNat m)) (by rw [hrun _ _ rfl]; exact hz a' hm0) (.int _ _)
                · rename_i hm0
                  have : ∃ ent cap', ρ b = some ent ∧ d' = .slice (some ⟨ent.r, o, none⟩) len cap' := by
                    cases hd2 with
                    | slice he hc => exact ⟨_, _, he, rfl⟩
                    | @loose _ _ o' _ c0 c' ent he h1 h2 h3 h4 =>
                      obtain ⟨rfl, _⟩ := h4 (by omega)
                      exact ⟨_, _, he, rfl⟩
                  obtain ⟨ent, cap', he, rfl⟩ := this
                  rw [putK_map]
                  split
                  · rename_i h' hp
                    obtain ⟨w', p1, p2⟩ := sim_put (P := P) hw hb he g2 (firstK_len hf).1 hp
                    intro r h2 n2 hr
                    simp only [Res.ok.injEq] at hr
                    obtain ⟨rfl, rfl, rfl⟩ := hr
                    refine .inr ⟨.value (.int .i64 (.ofNat m)), w', ρ, ?_, Ext.refl _ _, Nat.le_refl _, p2, .value (.int _ _)⟩
                    simp only [asNext, Sem.run_bind, hrun _ _ rfl, p1, Result.andThen_ok, Sem.run_pure]
                    rfl
                  · exact Sim.fail
              · exact Sim.fail
            · exact Sim.fail
          · exact Sim.fail
        · exact Sim.fail
      · exact Sim.fail
    · exact Sim.fail
  · exact Sim.fail
end
end Go.Am
end
