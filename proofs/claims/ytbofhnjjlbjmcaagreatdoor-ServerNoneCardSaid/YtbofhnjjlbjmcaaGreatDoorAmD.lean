/- The machine's operations are the model's, part 3. -/
import Derived.Test.YtbofhnjjlbjmcaaGreatDoorAmC
import Derived.Lib.UnsafeStr
import Derived.Laws.RangeString
import Derived.Laws.Externs
set_option linter.unusedVariables false
set_option linter.unusedSimpArgs false
section
set_option linter.unusedVariables false
namespace Go.Am
open Go Go.RowKit

section
variable {P : Program} {A : AP} {ρ : Rho} {h h' : T Ob} {n B : Nat} {w0 w : World}

theorem looseK_eq {β : Type} (c size : Nat) (k : Nat → β) : looseK c size k = k (c + LOOSE * (size + 1)) := by
  simp only [looseK, natK_eq]; rfl
theorem grow_eq (cs : List Value) (el : TypeId) (lo hi l' size : Nat) (h : T Ob) (n : Nat) : grow cs el lo hi l' size h n = match h.put n (.cells cs el lo hi) with
    | some h' => .ok (.value (.slice (some ⟨n, 0, none⟩) l' (l' + LOOSE * (size + 1)))) h' (n + 1)
    | none => .fail 20 := by
  simp only [grow, looseK_eq, newK_eq]
  cases h.put n (.cells cs el lo hi) <;> rfl

theorem loose_mod {c s : Nat} (h : c < LOOSE) : Nat.mod (c + LOOSE * (s + 1)) LOOSE = c := by
  rw [natMod]
  generalize LOOSE = L at h ⊢
  rw [Nat.add_mul_mod_self_left, Nat.mod_eq_of_lt h]
theorem loose_not {c s : Nat} : ¬ (c + LOOSE * (s + 1) < LOOSE) := by
  generalize LOOSE = L
  have : L * (s + 1) = L * s + L := Nat.mul_succ _ _
  omega
theorem lt_loose {m : Nat} (h : m ≤ 9223372036854775807) : m < LOOSE := by unfold LOOSE; omega

/-- what append comes to in the model: room or none -/
theorem run_append_room (hA : APOk P A) {t xt ty el : TypeId} {ts : Array TypeId} (h0 : ts[0]? = some t) (h1 : ts[1]? = some xt) {d : TypeDesc} (hd : under A xt = some d) (hno : ∀ k, d ≠ .int k)
    (hu : under A t = some (.slice el)) {size : Nat} (hsz : sizeOfT A el = some size) {base : Option Addr} {len cap xn : Nat} {x' : Value} (hl : (Builtin.lenOf x').run P w = .ok xn w) {vs : List Value}
    (hf : (Builtin.firstCells size xn x').run P w = .ok vs.toArray w) (hroom : len + xn ≤ cap) :
    (Builtin.append_ ts ty #[.slice base len cap, x']).run P w = (match base with | some a => (storeCells (a.add (len * size)) vs).run P w | none => .ok () w).andThen fun _ w' => .ok (.slice base (len + xn) cap) w' := by
  simp only [Builtin.append_, h0]
  show Sem.run P (underlying t >>= _) w = _
  rw [Sem.run_bind, run_under hA hu, Result.andThen_ok]
  show Sem.run P (sizeOf el >>= _) w = _
  rw [Sem.run_bind, run_sizeOf hA hsz, Result.andThen_ok]
  simp only [h1]
  rw [Sem.run_bind, run_under hA hd, Result.andThen_ok, Sem.run_bind, Sem.run_pure, Result.andThen_ok]
  simp only [Bool.false_eq_true, if_false, Bool.not_false, if_true, List.getElem_toArray, List.getElem_cons_succ, List.getElem_cons_zero]
  rw [Sem.run_bind, hl, Result.andThen_ok, if_pos hroom, Sem.run_bind, hf, Result.andThen_ok]
  cases base with
  | none => rfl
  | some a => simp only [Sem.run_bind]; rfl

theorem run_append_none (hA : APOk P A) {t xt ty el : TypeId} {ts : Array TypeId} (h0 : ts[0]? = some t) (h1 : ts[1]? = some xt) {d : TypeDesc} (hd : under A xt = some d) (hno : ∀ k, d ≠ .int k)
    (hu : under A t = some (.slice el)) {i : TypeInfo} {z : Value} (hi : P.info? el = some i) (hz : i.zero = some z) {base : Option Addr} {len cap xn : Nat} {x' : Value} (hl : (Builtin.lenOf x').run P w = .ok xn w) {vs vo : List Value}
    (hf : (Builtin.firstCells i.size xn x').run P w.drew = .ok vs.toArray w.drew) (ho : (Builtin.firstCells i.size len (.slice base len cap)).run P w.drew = .ok vo.toArray w.drew)
    (hroom : cap < len + xn) (h63 : len + xn ≤ 9223372036854775807) (h48 : 2 * (len + xn) * i.bytes ≤ 281474976710656) :
    (Builtin.append_ ts ty #[.slice base len cap, x']).run P w = .ok (.slice (some ⟨w.heap.size, 0, none⟩) (len + xn) (grownCap w (len + xn) cap el))
        (w.drew.alloc (.cells ((vo ++ vs).toArray ++ Builtin.zeroCells z.cells (grownCap w (len + xn) cap el - (len + xn))) el)) := by
  have hszr : ∀ w, (sizeOf el).run P w = .ok i.size w := fun w => by simp [Go.sizeOf, typeInfo, hi]
  have hinf : ∀ w, (typeInfo el).run P w = .ok i w := fun w => by simp [typeInfo, hi]
  simp only [Builtin.append_, h0]
  show Sem.run P (underlying t >>= _) w = _
  rw [Sem.run_bind, run_under hA hu, Result.andThen_ok]
  show Sem.run P (sizeOf el >>= _) w = _
  rw [Sem.run_bind, hszr, Result.andThen_ok]
  simp only [h1]
  rw [Sem.run_bind, run_under hA hd, Result.andThen_ok, Sem.run_bind, Sem.run_pure, Result.andThen_ok]
  simp only [Bool.false_eq_true, if_false, Bool.not_false, if_true, List.getElem_toArray, List.getElem_cons_succ, List.getElem_cons_zero]
  have hnr : ¬ (len + xn ≤ cap) := by omega
  rw [Sem.run_bind, hl, Result.andThen_ok, if_neg hnr]
  have hcap : ¬ (Builtin.nextslicecap (len + xn) cap * i.bytes > 2 ^ 48) := by
    have := Nat.mul_le_mul_right i.bytes (nextslicecap_le hroom)
    omega
  have h63' : ¬ (((len + xn : Nat) : Int) > IntKind.i64.max) := by
    have e3 : IntKind.i64.max = 9223372036854775807 := by decide
    rw [e3]; omega
  simp [hinf, hcap, Question.forced, hf, ho, newRow, zeroValue, hz, grownCap]
  rw [if_neg (by omega)]
  simp only [Result.ok.injEq, true_and]
  congr 2
  apply Array.toList_inj.1
  simp

theorem grownCap_le {need cap : Nat} {el : TypeId} : need ≤ grownCap w need cap el := by
  exact Nat.le_add_right _ _
theorem zeroCells_size (z : Array Value) (m : Nat) : (Builtin.zeroCells z m).size = m * z.size := by simp [Builtin.zeroCells]

/-- a new row in both, of a capacity of which so much is known -/
theorem sim_grow (hw : WR P ρ h n B w0 w) {lo hi : Nat} {cs : List Value} {vs : List Value} {rest : Array Value} {el : TypeId} {l' size cap : Nat} (hv : VRs ρ cs vs) (hl : l' < LOOSE) (hcap : l' ≤ cap) (hsz : P.cellsOf el = size) (hc : vs.length + rest.size = cap * size)
    {s : Sem Next} (hr : s.run P w = .ok (.value (.slice (some ⟨w.heap.size, 0, none⟩) l' cap)) (w.drew.alloc (.cells (vs.toArray ++ rest) el))) :
    Sim P ρ h n B w0 w (grow cs el lo hi l' size h n) s := by
  rw [grow_eq]
  split
  · rename_i h' hp
    have hw1 : WR P ρ h n B w0 w.drew := hw.same rfl rfl rfl rfl
    have hsome := hv
    obtain ⟨_, g2⟩ := new_cells (P := P) hw1 (cr := vs.toArray ++ rest) hp (by simp [hv.1]) (by
      intro i x hx
      obtain ⟨y, hy, hxy⟩ := hv.get hx
      refine ⟨y, ?_, hxy⟩
      have hi : i < vs.length := by
        rcases Nat.lt_or_ge i vs.length with h1 | h1
        · exact h1
        · rw [List.getElem?_eq_none h1] at hy; simp at hy
      rw [Array.getElem?_append_left (by simpa using hi)]
      simpa using hy)
    intro r h2 n2 hh
    simp only [Res.ok.injEq] at hh
    obtain ⟨rfl, rfl, rfl⟩ := hh
    refine .inr ⟨_, _, _, hr, hw1.ext_add _, by omega, g2, .value ?_⟩
    subst hsz
    refine .loose (e := ⟨w.drew.heap.size, (vs.toArray ++ rest).size, P.cellsOf el⟩) (Rho.add_self _ _ _) (Nat.le_refl _) hcap hl fun _ => ⟨rfl, ?_⟩
    simp [hc]
  · exact Sim.fail

/-- append goes on in the old row, that AM holds to be a new one -/
theorem sim_heir (hw : WR P ρ h n B w0 w) {b : Nat} {e : Ent} {c : List Value} {el : TypeId} {lo hi : Nat} (hb : h.get b = some (.cells c el lo hi)) (he : ρ b = some e) {old new : List Value} {vo vn : List Value} {len l' size cap : Nat}
    (hold : old = c.take (len * size)) (hol : old.length = len * size) (hn : VRs ρ new vn) (hne : len * size + new.length ≤ cap * size) (hl : l' < LOOSE) (hcap : l' ≤ cap) (hsz : P.cellsOf el = size) (hec : cap * e.s = e.cells) (hfr : hi ≤ len * size ∧ hi ≠ LOOSE)
    (hones : ∀ v ∈ vn, v.oneCell' = true)
    {s : Sem Next} (hr : s.run P w = ((storeCells ⟨e.r, len * size, none⟩ vn).run P w).andThen fun _ w' => .ok (.value (.slice (some ⟨e.r, 0, none⟩) l' cap)) w') {h1 : T Ob} (hp1 : h.put b (.deferred none) = some h1) :
    Sim P ρ h n B w0 w (grow (old ++ new) el lo hi l' size h1 n) s := by
  rw [grow_eq]
  split
  · rename_i h' hp
    obtain ⟨cr, flo, fhi, q1, q2, q3, q4, q5, q6, q7⟩ := hw.cells hb he
    have hes : e.s = size := by rw [← q3, hsz]
    rw [hes] at hec
    have hfit : len * size + vn.length ≤ cr.size := by rw [q2, ← hec, ← hn.1]; exact hne
    obtain ⟨w', g1, g2, g3, g4, g5, g6, g7⟩ := run_storeCells_lay (P := P) (r := e.r) (o := len * size) vn 0 cr w q1 (by omega)
      (by
        intro j hj1 hj2 ⟨p1, p2⟩
        have hq := q7 j p1 p2
        omega) hones
    intro r h2 n2 hh
    simp only [Res.ok.injEq] at hh
    obtain ⟨rfl, rfl, rfl⟩ := hh
    refine .inr ⟨.value (.slice (some ⟨e.r, 0, none⟩) l' cap), w', ρ.add n e, by rw [hr, g1]; rfl, hw.ext_add _, by omega, ?_, .value ?_⟩
    · refine hw.heir hb rfl he hp1 hp g3 g4 g5 g6 g7 ?_
      refine ⟨lay cr (len * size) vn, flo, fhi, by rw [g2]; simp, by rw [lay_size _ _ _ hfit]; exact q2, q3, ?_, ?_, q6, q7⟩
      · rw [lay_size _ _ _ hfit, List.length_append, hol, hn.1]; exact hfit
      · intro i x hx
        by_cases hi : i < len * size
        · rw [List.getElem?_append_left (by omega), hold, List.getElem?_take, if_pos hi] at hx
          obtain ⟨y, hy, hxy⟩ := q5 i x hx
          refine ⟨y, ?_, hxy.ext (hw.ext_add _).1⟩
          simp only [lay, List.append_assoc, List.getElem?_toArray]
          rw [List.getElem?_append_left (by simp; omega), List.getElem?_take, if_pos hi]
          simpa using hy
        · rw [List.getElem?_append_right (by omega), hol] at hx
          obtain ⟨y, hy, hxy⟩ := hn.get hx
          refine ⟨y, ?_, hxy.ext (hw.ext_add _).1⟩
          simp only [lay, List.append_assoc, List.getElem?_toArray]
          have hlt : i - len * size < vn.length := by
            rcases Nat.lt_or_ge (i - len * size) vn.length with h1 | h1
            · exact h1
            · rw [List.getElem?_eq_none h1] at hy; simp at hy
          rw [List.getElem?_append_right (by simp; omega)]
          have e1 : (List.take (len * size) cr.toList).length = len * size := by simp; omega
          rw [e1, List.getElem?_append_left hlt, hy]
    · subst hes
      exact .loose (Rho.add_self _ _ _) (Nat.le_refl _) hcap hl fun _ => ⟨rfl, by omega⟩
  · exact Sim.fail

theorem Sim.other {h1 : T Ob} {cs : List Value} {el : TypeId} {lo hi l' size : Nat} {s : Sem Next} (hs : Sim P ρ h1 n B w0 w (grow cs el lo hi l' size h1 n) s) : Sim P ρ h n B w0 w (grow cs el lo hi l' size h1 n) s := by
  intro r h' n' hr
  have hr0 := hr
  rw [grow_eq] at hr0
  split at hr0
  · simp only [Res.ok.injEq] at hr0
    obtain ⟨rfl, _, _⟩ := hr0
    rcases hs _ _ _ hr with ⟨v, v', h1, _⟩ | h2
    · simp at h1
    · exact .inr h2
  · simp at hr0

theorem firstK_take {size m b l c : Nat} {cc old : List Value} {el : TypeId} {lo hi : Nat} (hold : firstK size m (.slice (some ⟨b, 0, none⟩) l c) h none some = some old) (hb : h.get b = some (.cells cc el lo hi)) : old = cc.take (m * size) := by
  simp only [firstK, hb, ldrop_eq, ltakeK_eq, natMul, List.drop_zero] at hold
  split at hold
  · exact (Option.some.inj hold).symm
  · exact absurd hold (by simp)

theorem sim_appGrow (hA : APOk P A) (hw : WR P ρ h n B w0 w) {t xt ty el : TypeId} {ts : Array TypeId} (h0 : ts[0]? = some t) (h1 : ts[1]? = some xt) {d : TypeDesc} (hd : under A xt = some d) (hno : ∀ k, d ≠ .int k)
    (hu : under A t = some (.slice el)) {size : Nat} (hsz : sizeOfT A el = some size) {base : Option Addr} {len cap xn : Nat} {s' x x' : Value} (hs : VR ρ (.slice base len cap) s') (hx : VR ρ x x')
    (hl : (Builtin.lenOf x').run P w = .ok xn w) (hle : ∀ a l c, x = .slice (some a) l c → xn ≤ l) (hnil : ∀ l c, x = .slice none l c → xn = 0) {new : List Value} (hnew : firstK size xn x h none some = some new)
    (hroom : ¬ (len + xn ≤ cond (Nat.blt cap LOOSE) cap (Nat.mod cap LOOSE))) {i : TypeInfo} {z : Value} (hi : A.types.get el = some i) (hz : i.zero = some z) (k1 : (cellsOf z).length = size) (k2 : len + xn ≤ 9223372036854775807) (k3 : (4 * (len + xn) + 2000) * i.bytes ≤ 281474976710656) :
    Sim P ρ h n B w0 w (appGrow size el (.slice base len cap) base len cap (len + xn) new h n) (asNext (Builtin.append_ ts ty #[s', x'])) := by
  have hPi := hA.types _ _ hi
  have hisz : i.size = size := by
    simp only [sizeOfT, hi, Option.some.injEq] at hsz; exact hsz
  have hcs : P.cellsOf el = size := cellsOf_some hA hsz
  have hw1 : WR P ρ h n B w0 w.drew := hw.same rfl rfl rfl rfl
  obtain ⟨vn, g1, g2⟩ := sim_firstK (P := P) hw hx hle hnew
  obtain ⟨vn1, gn1, gn2⟩ := sim_firstK (P := P) hw1 hx hle hnew
  have hnl2 := (firstK_len hnew).2 hnil
  have hz1 : z.cells.size = size := by rw [← cells_length, k1]
  have h48 : 2 * (len + xn) * i.bytes ≤ 281474976710656 := Nat.le_trans (Nat.mul_le_mul_right _ (by omega)) k3
  have hlt : len + xn < LOOSE := lt_loose k2
  have hgrow : ∀ {lo hi : Nat} {h1 : T Ob} {base' : Option Addr} {cap' : Nat} {old : List Value} {s' : Value}, WR P ρ h1 n B w0 w → s' = .slice base' len cap' → cap' < len + xn → VR ρ (.slice base len cap) s' → firstK size len (.slice base len cap) h none some = some old → old.length = len * size →
      Sim P ρ h1 n B w0 w (grow (old ++ new) el lo hi (len + xn) size h1 n) (asNext (Builtin.append_ ts ty #[s', x'])) := by
    intro lo hi h1' base' cap' old s' hwk hs' hcap hsv hold hol
    subst hs'
    obtain ⟨vo, go1, go2⟩ := sim_firstK (P := P) hw1 hsv (fun a l c hh => by cases hh; exact Nat.le_refl _) hold
    have hrun := run_append_none (ty := ty) hA h0 h1 hd hno hu hPi hz (base := base') (len := len) (cap := cap') hl (by rw [hisz]; exact gn1) (by rw [hisz]; exact go1) hcap k2 h48
    refine sim_grow hwk (go2.append gn2) hlt (grownCap_le (w := w) (cap := cap') (el := el)) hcs ?_ ?_ (rest := Builtin.zeroCells z.cells (grownCap w (len + xn) cap' el - (len + xn)))
    · rw [zeroCells_size, hz1, List.length_append, ← go2.1, ← gn2.1, hol, hnl2, ← Nat.add_mul, ← Nat.add_mul]
      congr 1
      have := grownCap_le (w := w) (need := len + xn) (cap := cap') (el := el)
      omega
    · simp only [asNext, Sem.run_bind, hrun, Result.andThen_ok, Sem.run_pure]
  unfold appGrow
  rw [firstK_map]
  split
  · rename_i old hold
    simp only [lappK_eq]
    split
    · cases hck : (Nat.beq len 0 && Nat.blt cap LOOSE) with
      | false => exact Sim.fail
      | true =>
        rw [cond_true]
        rw [Bool.and_eq_true] at hck
        obtain ⟨hl0, hcl⟩ := hck
        have hl0 : len = 0 := Nat.eq_of_beq_eq_true hl0
        rw [natBlt] at hcl
        have hcl := of_decide_eq_true hcl
        subst hl0
        rw [natBlt, decide_eq_true hcl] at hroom
        rw [cond_true] at hroom
        cases hs with
        | nilSlice =>
          exact hgrow hw rfl (by omega) (.nilSlice _ _) hold ((firstK_len hold).2 (fun l c hh => rfl))
    · rename_i b o
      have hol := (firstK_len hold).2 (fun l c hh => by simp at hh)
      have hs2 := hs
      cases hs2 with
      | slice he hc =>
        rw [natBlt, decide_eq_true hc] at hroom ⊢
        rw [cond_true] at hroom ⊢
        exact hgrow hw rfl (by omega) hs hold hol
      | @loose _ _ o' _ c0 c' ent he h1' h2 h3 h4 =>
        have hnl : ¬ (c0 + LOOSE * (ent.s + 1) < LOOSE) := loose_not
        rw [natBlt, decide_eq_false hnl] at hroom ⊢
        rw [cond_false] at hroom ⊢
        split
        · rename_i c el' lo hi hb
          cases hck : (Nat.beq el el' && (Nat.beq o 0 && (Nat.ble hi (Nat.mul len size) && (!Nat.beq hi LOOSE && oneCs new)))) with
          | false => exact Sim.fail
          | true =>
            rw [cond_true]
            rw [Bool.and_eq_true, Bool.and_eq_true, Bool.and_eq_true, Bool.and_eq_true] at hck
            obtain ⟨c1, c2, c3, c4, c5⟩ := hck
            have c1 : el = el' := Nat.eq_of_beq_eq_true c1
            have c2 : o = 0 := Nat.eq_of_beq_eq_true c2
            have hf1 : hi ≤ len * size := Nat.le_of_ble_eq_true c3
            have hf2 : hi ≠ LOOSE := by
              rintro hq
              rw [natBeq, decide_eq_true hq] at c4
              exact absurd c4 (by decide)
            subst c1
            subst c2
            rw [T.setK_eq]
            split
            · rename_i h1x hp1
              by_cases hcc : len + xn ≤ c'
              · obtain ⟨ho0, hcells⟩ := h4 (by omega)
                subst ho0
                have hrun := run_append_room (ty := ty) hA h0 h1 hd hno hu hsz (base := some ⟨ent.r, 0, none⟩) hl g1 hcc
                have hes : ent.s = size := by
                  obtain ⟨cr, flo, fhi, q1, q2, q3, _⟩ := hw.cells hb he
                  rw [← q3, hcs]
                refine sim_heir hw hb he (vo := []) (len := len) (size := size) (cap := c') ?_ hol g2 ?_ hlt hcc hcs (by rw [← hcells, Nat.zero_add]) ⟨hf1, hf2⟩ ?_ ?_ hp1
                · exact firstK_take hold hb
                · rw [hnl2, ← Nat.add_mul]; exact Nat.mul_le_mul_right _ hcc
                · intro v hv
                  obtain ⟨k, hk, rfl⟩ := List.getElem_of_mem hv
                  have hk' : k < new.length := by rw [g2.1]; exact hk
                  rw [(g2.2 k new[k] vn[k] (by simp [hk']) (by simp [hk])).one]
                  exact oneCs_all new c5 _ (by simp)
                · simp only [asNext, Sem.run_bind, hrun, addr_add, Nat.zero_add]
                  cases (storeCells ⟨ent.r, len * size, none⟩ vn).run P w <;> rfl
              · exact Sim.other (hgrow (hw.kill hb hp1) rfl (by omega) hs hold hol)
            · exact Sim.fail
        · exact Sim.fail
    · exact Sim.fail
  · exact Sim.fail

theorem sim_appendX (hA : APOk P A) (hw : WR P ρ h n B w0 w) {t xt ty : TypeId} {ts : Array TypeId} (h0 : ts[0]? = some t) (h1 : ts[1]? = some xt) {d : TypeDesc} (hd : under A xt = some d) (hno : ∀ k, d ≠ .int k)
    {s s' x x' : Value} (hs : VR ρ s s') (hx : VR ρ x x') : Sim P ρ h n B w0 w (appendX A t s x h n) (asNext (Builtin.append_ ts ty #[s', x'])) := by
  unfold appendX
  split
  · rename_i base len cap
    split
    · rename_i el hu
      split
      · rename_i size hsz
        split
        · rename_i xn hxn
          rw [firstK_map]
          obtain ⟨hl, hle, hnil⟩ := srcLen_rel (P := P) (w := w) hx hxn
          split
          · rename_i new hnew
            obtain ⟨vn, g1, g2⟩ := sim_firstK (P := P) hw hx hle hnew
            obtain ⟨hnl, _⟩ := firstK_len hnew
            simp only [natK_eq, natAdd]
            rw [natBle, Bool.cond_decide]
            split
            · rename_i hroom
              unfold appPut
              split
              · rename_i b o
                split
                · rename_i c e lo hi hb
                  have hd2 := hs
                  have key : ∃ ent o' cap', ρ b = some ent ∧ s' = .slice (some ⟨ent.r, o', none⟩) len cap' ∧ len + xn ≤ cap' ∧ (len + xn ≠ 0 → o' = o) ∧ VR ρ (.slice (some ⟨b, o, none⟩) (len + xn) cap) (.slice (some ⟨ent.r, o', none⟩) (len + xn) cap') := by
                    cases hd2 with
                    | slice he hc =>
                      rw [natBlt, decide_eq_true hc] at hroom
                      exact ⟨_, _, _, he, rfl, hroom, fun _ => rfl, .slice he hc⟩
                    | @loose _ _ o' _ c0 c' ent he h1 h2 h3 h4 =>
                      have hnl : ¬ (c0 + LOOSE * (ent.s + 1) < LOOSE) := loose_not
                      rw [natBlt, decide_eq_false hnl] at hroom
                      have hmod : Nat.mod (c0 + LOOSE * (ent.s + 1)) LOOSE = c0 := loose_mod h3
                      simp only [cond_false, hmod] at hroom
                      exact ⟨_, _, _, he, rfl, by omega, fun hz => (h4 (by omega)).1, .loose he hroom h2 h3 h4⟩
                  obtain ⟨ent, o', cap', he, rfl, hrm, hoo, hres⟩ := key
                  have hrun := run_append_room (ty := ty) hA h0 h1 hd hno hu hsz (base := some ⟨ent.r, o', none⟩) hl g1 hrm
                  rw [natBeq, Bool.cond_decide]
                  split
                  · rename_i hx0
                    subst hx0
                    have : new = [] := List.eq_nil_of_length_eq_zero (by omega)
                    subst this
                    rw [VRs.of_nil g2] at hrun
                    refine Sim.val hw (v' := .slice (some ⟨ent.r, o', none⟩) (len + 0) cap') (by rw [hrun]; rfl) hres
                  · rename_i hx0
                    obtain rfl := hoo (by omega)
                    simp only [natK_eq]
                    rw [putK_map]
                    split
                    · rename_i h' hp
                      obtain ⟨w', p1, p2⟩ := sim_put (P := P) hw hb he g2 hnl hp
                      intro r h2 n2 hr
                      simp only [Res.ok.injEq] at hr
                      obtain ⟨rfl, rfl, rfl⟩ := hr
                      refine .inr ⟨.value _, w', ρ, ?_, Ext.refl _ _, Nat.le_refl _, p2, .value hres⟩
                      have p1' : (storeCells ((⟨ent.r, o', none⟩ : Addr).add (len * size)) vn).run P w = .ok () w' := by rw [addr_add]; exact p1
                      simp only [asNext, Sem.run_bind, hrun, p1', Result.andThen_ok, Sem.run_pure]
                    · exact Sim.fail
                · exact Sim.fail
              · rw [natBeq, Bool.cond_decide]
                split
                · rename_i hz
                  cases hs with
                  | nilSlice =>
                    have hrm : len + xn ≤ cap := by omega
                    have hrun := run_append_room (ty := ty) hA h0 h1 hd hno hu hsz (base := none) hl g1 hrm
                    refine Sim.val hw (v' := .slice none 0 cap) (by rw [hrun, hz]; rfl) (.nilSlice _ _)
                · exact Sim.fail
              · exact Sim.fail
            · rename_i hroom
              cases hok : roomOk A el size (len + xn) with
              | false => exact Sim.fail
              | true =>
                simp only [cond_true]
                unfold roomOk at hok
                split at hok
                · rename_i i hi
                  split at hok
                  · rename_i z hz
                    rw [Bool.and_eq_true, Bool.and_eq_true] at hok
                    obtain ⟨k1, k2, k3⟩ := hok
                    have k1 := Nat.eq_of_beq_eq_true k1
                    have k2 := Nat.le_of_ble_eq_true k2
                    have k3 := Nat.le_of_ble_eq_true k3
                    rw [llen_eq] at k1
                    exact sim_appGrow hA hw h0 h1 hd hno hu hsz hs hx hl hle hnil hnew hroom hi hz k1 k2 k3
                  · simp at hok
                · simp at hok
          · exact Sim.fail
        · exact Sim.fail
      · exact Sim.fail
    · exact Sim.fail
  · exact Sim.fail
end
end Go.Am
end
section
set_option linter.unusedVariables false
namespace Go.Am
open Go Go.RowKit

section
variable {P : Program} {A : AP} {ρ : Rho} {h h' : T Ob} {n B : Nat} {w0 w : World}

noncomputable def valB (vs : List Value) : Option (List UInt8) := valBytes vs none some
theorem valBytes_eq {β : Type} : ∀ (vs : List Value) (f : β) (k : List UInt8 → β), valBytes vs f k = match valB vs with | some bs => k bs | none => f
  | [], f, k => rfl
  | v :: vs, f, k => by
    unfold valB
    simp only [valBytes]
    split
    · rw [valBytes_eq vs, valBytes_eq vs none]
      cases valB vs <;> rfl
    · rfl
theorem valB_cons {v : Value} {vs : List Value} {bs : List UInt8} (hv : valB (v :: vs) = some bs) : ∃ m l, v = .int .u8 (.ofNat m) ∧ valB vs = some l ∧ bs = UInt8.ofNat m :: l := by
  unfold valB at hv
  simp only [valBytes] at hv
  split at hv
  · rw [valBytes_eq] at hv
    split at hv
    · rename_i m l hl
      simp only [Option.some.injEq] at hv
      exact ⟨_, _, rfl, hl, hv.symm⟩
    · simp at hv
  · simp at hv
theorem valB_nil {bs : List UInt8} (hv : valB [] = some bs) : bs = [] := by
  simp only [valB, valBytes, Option.some.injEq] at hv; exact hv.symm
theorem valB_len : ∀ {vs : List Value} {bs : List UInt8}, valB vs = some bs → bs.length = vs.length
  | [], bs, h => by rw [valB_nil h]; rfl
  | v :: vs, bs, h => by obtain ⟨m, l, rfl, h2, rfl⟩ := valB_cons h; simp [valB_len h2]
/-- numbers are the same in both -/
theorem valB_rel : ∀ {vs vs' : List Value} {bs : List UInt8}, VRs ρ vs vs' → valB vs = some bs → vs' = vs
  | [], vs', bs, h, _ => VRs.of_nil h
  | v :: vs, vs', bs, h, hb => by
    obtain ⟨y, ys, rfl, h1, h2⟩ := VRs.of_cons h
    obtain ⟨m, l, rfl, h3, rfl⟩ := valB_cons hb
    cases h1
    rw [valB_rel h2 h3]

theorem run_pushLoop {f : Value → ByteArray → Sem (ForInStep ByteArray)} (hf : ∀ (k : Int) (r : ByteArray), (f (.int .u8 k) r).run P w = .ok (.yield (r.push (UInt8.ofNat k.toNat))) w) : ∀ {vs : List Value} {bs : List UInt8} (acc : ByteArray), valB vs = some bs →
    (forIn vs acc f).run P w = .ok ⟨acc.data ++ bs.toArray⟩ w
  | [], bs, acc, h => by rw [valB_nil h]; simp
  | v :: vs, bs, acc, h => by
    obtain ⟨m, l, rfl, h2, rfl⟩ := valB_cons h
    rw [List.forIn_cons]
    simp only [Sem.run_bind, hf, Result.andThen_ok]
    rw [run_pushLoop hf _ h2]
    congr 1
    apply ByteArray.ext
    simp [ByteArray.push]

theorem run_loadBytes' : ∀ {vs : List Value} {bs : List UInt8} (r o : Nat) (acc : ByteArray), valB vs = some bs → (∀ j x, vs[j]? = some x → w.cell? ⟨r, o + j, none⟩ = some x) →
    (loadBytes ⟨r, o, none⟩ acc vs.length).run P w = .ok ⟨acc.data ++ bs.toArray⟩ w
  | [], bs, r, o, acc, h, _ => by rw [valB_nil h]; simp [loadBytes]
  | v :: vs, bs, r, o, acc, h, hc => by
    obtain ⟨m, l, rfl, h2, rfl⟩ := valB_cons h
    have h0 : w.cell? ⟨r, o, none⟩ = some (.int .u8 (.ofNat m)) := hc 0 _ rfl
    simp only [List.length_cons, loadBytes, Sem.run_bind, run_load1 h0, Result.andThen_ok, addr_add]
    rw [run_loadBytes' r (o + 1) _ h2 (fun j x hx => by rw [show o + 1 + j = o + (j + 1) by omega]; exact hc (j + 1) x (by simpa using hx))]
    congr 1
    apply ByteArray.ext
    simp [ByteArray.push, Nat.toUInt8]

theorem str_eq (l : List UInt8) : str l = .string ⟨l.toArray⟩ := rfl

/-- a slice of bytes as a text -/
theorem sim_bytesToStr (hA : APOk P A) (hw : WR P ρ h n B w0 w) {e : TypeId} {x x' : Value} (hx : VR ρ x x') :
    Sim P ρ h n B w0 w (bytesToStr A e x h n) (asNext (do match ← underlying e with | .int .u8 => Conv.bytesToString x' | .int .i32 => Conv.runesToString x' | _ => stuck "Convert: a slice of what to string?")) := by
  unfold bytesToStr
  split
  · rename_i hu
    have hcg : ∀ y, (do match ← underlying e with | .int .u8 => Conv.bytesToString y | .int .i32 => Conv.runesToString y | _ => stuck "Convert: a slice of what to string?" : Sem Value).run P w = (Conv.bytesToString y).run P w := by
      intro y
      rw [Sem.run_bind, run_under hA hu]; rfl
    split
    · cases hx with
      | nilSlice => exact Sim.val hw (v' := .string .empty) (by rw [hcg]; rfl) (.string _)
    · rename_i a len cap
      rw [firstK_map]
      split
      · rename_i cs hf
        rw [valBytes_eq]
        split
        · rename_i bs hbs
          obtain ⟨vs, g1, g2⟩ := sim_firstK (P := P) hw hx (fun a l c hh => by cases hh; exact Nat.le_refl _) hf
          have hvs := valB_rel g2 hbs
          have : ∃ a' cap', x' = .slice (some a') len cap' := by cases hx <;> exact ⟨_, _, rfl⟩
          obtain ⟨a', cap', rfl⟩ := this
          refine Sim.val hw (v' := .string ⟨bs.toArray⟩) ?_ (.string _)
          rw [hcg]
          simp only [Builtin.firstCells, Nat.mul_one] at g1
          simp only [Conv.bytesToString, Sem.run_bind, g1, Result.andThen_ok, List.forIn_toArray]
          rw [hvs, run_pushLoop (fun k r => by simp) _ hbs]
          simp
        · exact Sim.fail
      · exact Sim.fail
    · exact Sim.fail
  · exact Sim.fail

/-! frozen cells -/
theorem hullK_eq {β : Type} (lo hi a b : Nat) (k : Nat → Nat → β) : hullK lo hi a b k = if lo = hi ∧ hi ≠ LOOSE then k a b else k (min lo a) (if hi = LOOSE ∨ b = LOOSE then LOOSE else max hi b) := by
  unfold hullK
  simp only [natK_eq]
  by_cases h1 : lo = hi ∧ hi ≠ LOOSE
  · have : (and (Nat.beq lo hi) (not (Nat.beq hi LOOSE))) = true := by
      rw [natBeq, natBeq, decide_eq_true h1.1, decide_eq_false h1.2]; rfl
    rw [this, if_pos h1, cond_true]
  · have : (and (Nat.beq lo hi) (not (Nat.beq hi LOOSE))) = false := by
      rw [natBeq, natBeq]
      by_cases h2 : lo = hi
      · have h3 : hi = LOOSE := by
          by_cases h4 : hi = LOOSE
          · exact h4
          · exact absurd ⟨h2, h4⟩ h1
        rw [decide_eq_true h3]; simp
      · rw [decide_eq_false h2]; rfl
    rw [this, if_neg h1, cond_false]
    have e1 : (cond (Nat.ble lo a) lo a) = min lo a := by
      rw [natBle, Bool.cond_decide]; rw [Nat.min_def]
    have e2 : (cond (or (Nat.beq hi LOOSE) (Nat.beq b LOOSE)) LOOSE (cond (Nat.ble hi b) b hi)) = if hi = LOOSE ∨ b = LOOSE then LOOSE else max hi b := by
      rw [natBeq, natBeq, natBle]
      generalize LOOSE = L
      rw [Nat.max_def]
      by_cases h2 : hi = L
      · subst h2; simp
      · by_cases h3 : b = L
        · subst h3; simp
        · by_cases h4 : hi ≤ b <;> simp [h2, h3, h4]
    rw [e1, e2]

theorem freeze_heap {w : World} {r : Nat} {cr : Array Value} {el : TypeId} {flo fhi : Nat} (hh : w.heap[r]? = some (.cells cr el (flo, fhi))) {o m : Nat} (hm : m ≠ 0) :
    (w.freeze ⟨r, o, none⟩ m).heap = w.heap.setIfInBounds r (.cells cr el (if flo = fhi then (o, o + m) else (min flo o, max fhi (o + m)))) := by
  unfold World.freeze
  rw [if_neg hm]
  apply Array.ext_getElem?
  intro k
  simp only
  rw [Array.getElem?_modify, Array.getElem?_setIfInBounds]
  by_cases hk : r = k
  · subst hk
    have hlt : r < w.heap.size := by
      rcases Nat.lt_or_ge r w.heap.size with h2 | h2
      · exact h2
      · rw [Array.getElem?_eq_none h2] at hh; simp at hh
    rw [if_pos rfl, if_pos rfl, hh, if_pos hlt]
    simp only [Option.map_some, beq_iff_eq]
  · simp [hk]

/-- cells frozen in both; AM's hull is the wider one -/
theorem WR.frz (hw : WR P ρ h n B w0 w) {b : Nat} {e : Ent} {c : List Value} {el : TypeId} {lo hi : Nat} (hb : h.get b = some (.cells c el lo hi)) (he : ρ b = some e) {o m a bb : Nat} (hm : m ≠ 0) (ha : a ≤ o) (hbb : bb = LOOSE ∨ o + m ≤ bb) (hne : a < bb ∨ bb = LOOSE)
    {h' : T Ob} (hp : hullK lo hi a bb (fun lo' hi' => h.setK b (.cells c el lo' hi') none some) = some h') : WR P ρ h' n B w0 (w.freeze ⟨e.r, o, none⟩ m) := by
  obtain ⟨cr, flo, fhi, h1, h2, h3, h4, h5, h6, h7⟩ := hw.cells hb he
  have hr := (hw.rng b e _ he hb).2
  rw [hullK_eq] at hp
  have hos : (w.freeze ⟨e.r, o, none⟩ m).os = w.os ∧ (w.freeze ⟨e.r, o, none⟩ m).tape = w.tape ∧ (w.freeze ⟨e.r, o, none⟩ m).output = w.output := by
    unfold World.freeze; split <;> exact ⟨rfl, rfl, rfl⟩
  have hheap := freeze_heap h1 (o := o) hm
  have key : ∀ {lo' hi' : Nat}, h.setK b (.cells c el lo' hi') none some = some h' → (∀ i, (if flo = fhi then (o, o + m) else (min flo o, max fhi (o + m))).1 ≤ i → i < (if flo = fhi then (o, o + m) else (min flo o, max fhi (o + m))).2 → lo' ≤ i ∧ (i < hi' ∨ hi' = LOOSE)) → WR P ρ h' n B w0 (w.freeze ⟨e.r, o, none⟩ m) := by
    intro lo' hi' hs hq
    refine hw.upd hb rfl he hs (by rw [hheap]; simp) (fun r hne => ?_) hos.1 hos.2.1 hos.2.2 ?_
    · rw [hheap, Array.getElem?_setIfInBounds]; simp [Ne.symm hne]
    · refine ⟨cr, (if flo = fhi then (o, o + m) else (min flo o, max fhi (o + m))).1, (if flo = fhi then (o, o + m) else (min flo o, max fhi (o + m))).2, ?_, h2, h3, h4, h5, ?_, hq⟩
      · rw [hheap]; simp [hr]
      · split
        · simp
        · simp only; omega
  split at hp
  · rename_i hc
    refine key hp fun i hi1 hi2 => ?_
    have hff : flo = fhi := by
      rcases Nat.lt_or_ge flo fhi with hlt | hge
      · have := h7 flo (Nat.le_refl _) hlt
        omega
      · omega
    rw [if_pos hff] at hi1 hi2
    simp only at hi1 hi2
    exact ⟨by omega, by rcases hbb with h | h; exact .inr h; exact .inl (by omega)⟩
  · rename_i hc
    refine key hp fun i hi1 hi2 => ?_
    by_cases hff : flo = fhi
    · rw [if_pos hff] at hi1 hi2
      simp only at hi1 hi2
      refine ⟨by omega, ?_⟩
      split
      · exact .inr rfl
      · rename_i hno
        rcases hbb with h | h
        · exact absurd (.inr h) hno
        · exact .inl (by omega)
    · rw [if_neg hff] at hi1 hi2
      simp only at hi1 hi2
      have hlt : flo < fhi := by omega
      have k1 := h7 flo (Nat.le_refl _) hlt
      have k2 := h7 (fhi - 1) (by omega) (by omega)
      refine ⟨by omega, ?_⟩
      split
      · exact .inr rfl
      · rename_i hno
        rcases hbb with h | h
        · exact absurd (.inr h) hno
        · rcases k2.2 with h2 | h2
          · exact .inl (by omega)
          · exact absurd (.inl h2) hno

theorem mark_shape {r : Nat} {cr : Array Value} {el : TypeId} {f : Nat × Nat} {o : Nat} (hh : w.heap[r]? = some (.cells cr el f)) : (markStringish ⟨r, o, none⟩).run P w = .ok () (w.freeze ⟨r, cr.size, none⟩ 1) := by
  have : w.shape? r = some (el, cr.size) := by simp [World.shape?, hh]
  simp [markStringish, this]

/-- '[]byte' of a '[]byte' of the same type: its block is marked -/
theorem sim_markStr (hA : APOk P A) (hw : WR P ρ h n B w0 w) {src dst e : TypeId} {x x' : Value} (hx : VR ρ x x') {s : Sem Value}
    (hs : ∀ a l c, src = dst → under A e = some (.int .u8) → x' = .slice (some a) l c → s.run P w = (do markStringish a; pure x' : Sem Value).run P w) :
    Sim P ρ h n B w0 w (markStr A src dst e x h n) (asNext s) := by
  unfold markStr
  split
  · rename_i b o l c
    split
    · rename_i hu
      split
      · rename_i cs el lo hi hb
        rw [natBeq, Bool.cond_decide]
        split
        · rename_i hsd
          rw [llenK_eq, Nat.zero_add]
          have key : ∃ ent o' c', ρ b = some ent ∧ x' = .slice (some ⟨ent.r, o', none⟩) l c' := by
            cases hx with
            | slice he hc => exact ⟨_, _, _, he, rfl⟩
            | loose he _ _ _ _ => exact ⟨_, _, _, he, rfl⟩
          obtain ⟨ent, o', c', he, hx'⟩ := key
          obtain ⟨cr, flo, fhi, q1, q2, q3, q4, q5, q6, q7⟩ := hw.cells hb he
          have hrun := hs _ _ _ hsd hu hx'
          have hput : ∀ {lo' hi' : Nat} {t : T Ob}, h.put b (.cells cs el lo' hi') = some t → h.setK b (.cells cs el lo' hi') none some = some t := fun hh => hh
          have fin : ∀ {t : T Ob}, hullK lo hi cs.length LOOSE (fun lo' hi' => h.setK b (.cells cs el lo' hi') none some) = some t → Sim P ρ h n B w0 w (.ok (.value (.slice (some ⟨b, o, none⟩) l c)) t n) (asNext s) := by
            intro t ht
            have hwf := hw.frz hb he (o := cr.size) (m := 1) (by omega) q4 (.inl rfl) (.inr rfl) ht
            intro r h2 n2 hr
            simp only [Res.ok.injEq] at hr
            obtain ⟨rfl, rfl, rfl⟩ := hr
            refine .inr ⟨.value x', _, ρ, ?_, Ext.refl _ _, Nat.le_refl _, hwf, .value hx⟩
            simp only [asNext, Sem.run_bind, hrun, hx', mark_shape q1, Result.andThen_ok, Sem.run_pure]
          rw [hullK_eq] at fin ⊢
          split at fin
          · rename_i hc; rw [if_pos hc, T.setK_eq]
            split
            · rename_i t ht; exact fin (hput ht)
            · exact Sim.fail
          · rename_i hc; rw [if_neg hc, T.setK_eq]
            split
            · rename_i t ht; exact fin (hput ht)
            · exact Sim.fail
        · exact Sim.fail
      · exact Sim.fail
    · exact Sim.fail
  · exact Sim.fail

/-- a text as bytes -/
theorem sim_strToBytes (hA : APOk P A) (hw : WR P ρ h n B w0 w) {e : TypeId} {s : ByteArray} {sm : Sem Value} (hs : under A e = some (.int .u8) → sm.run P w = (Conv.stringToBytes e s).run P w) :
    Sim P ρ h n B w0 w (strToBytes A e s h n) (asNext sm) := by
  unfold strToBytes
  split
  · rename_i hu
    split
    · rename_i hsz
      rw [byteVals_eq, llenK_eq, Nat.zero_add, List.length_map, natBlt, Bool.cond_decide]
      split
      · rename_i hlt
        rw [looseK_eq, newK_eq]
        split
        · rename_i t ht
          have hw1 : WR P ρ h n B w0 w.drew := hw.same rfl rfl rfl rfl
          have hsize : s.size = s.data.toList.length := (Array.length_toList (xs := s.data)).symm
          have hcapeq : ∃ cap, s.size ≤ cap ∧ (choose (.appendCap s.size 0 e)).run P w = .ok cap w.drew := by
            refine ⟨grownCap w s.size 0 e, grownCap_le, ?_⟩
            simp [Question.forced, grownCap]
          obtain ⟨cap, hcap, hch⟩ := hcapeq
          let cr : Array Value := (s.data.map fun b => Value.int .u8 b.toNat) ++ Array.replicate (cap - s.size) (.int .u8 0)
          have hcrs : cr.size = cap := by
            simp only [cr, Array.size_append, Array.size_map, Array.size_replicate]
            have : s.data.size = s.size := rfl
            omega
          have hcells : P.cellsOf e = 1 := cellsOf_some hA hsz
          have hrel : ∀ (i : Nat) (x : Value), (s.data.toList.map fun b => Value.int .u8 (.ofNat b.toNat))[i]? = some x → ∃ y, cr[i]? = some y ∧ VR ρ x y := by
            intro i x hx
            rw [List.getElem?_map] at hx
            cases hi : s.data.toList[i]? with
            | none => rw [hi] at hx; simp at hx
            | some b =>
              rw [hi] at hx
              simp only [Option.map_some, Option.some.injEq] at hx
              subst hx
              refine ⟨.int .u8 b.toNat, ?_, .int _ _⟩
              have hi' : s.data[i]? = some b := by simpa using hi
              have hlt' : i < s.data.size := by
                rcases Nat.lt_or_ge i s.data.size with h1 | h1
                · exact h1
                · rw [Array.getElem?_eq_none h1] at hi'; simp at hi'
              simp only [cr]
              rw [Array.getElem?_append_left (by simpa using hlt'), Array.getElem?_map, hi']
              rfl
          -- the world behind it
          have hnew : WR P (ρ.add n ⟨w.heap.size, cap, 1⟩) t (n + 1) B w0 { w.drew with heap := w.heap.push (.cells cr e (cap, cap + 1)) } := by
            refine hw1.new (e := ⟨w.heap.size, cap, 1⟩) rfl ht ?_
            refine ⟨cr, cap, cap + 1, ?_, hcrs, hcells, ?_, fun i x hx => ?_, by omega, fun i h1 h2 => ⟨by omega, .inr rfl⟩⟩
            · show (w.heap.push _)[w.heap.size]? = _
              simp
            · rw [List.length_map, ← hsize, hcrs]; exact hcap
            · obtain ⟨y, hy, hxy⟩ := hrel i x hx
              exact ⟨y, hy, hxy.ext (hw1.ext_add _).1⟩
          have hrun : (Conv.stringToBytes e s).run P w = .ok (.slice (some ⟨w.heap.size, 0, none⟩) s.size cap) { w.drew with heap := w.heap.push (.cells cr e (cap, cap + 1)) } := by
            simp only [Conv.stringToBytes, Sem.run_bind, hch, Result.andThen_ok, newRow, run_newObj, Sem.run_pure]
            have hmk : (markStringish ⟨w.heap.size, 0, none⟩).run P { w.drew with heap := w.heap.push (.cells cr e) } = .ok () { w.drew with heap := w.heap.push (.cells cr e (cap, cap + 1)) } := by
              rw [mark_shape (r := w.heap.size) (cr := cr) (el := e) (f := (0, 0)) (by simp)]
              congr 1
              have h1 := freeze_heap (w := { w.drew with heap := w.heap.push (.cells cr e) }) (r := w.heap.size) (cr := cr) (el := e) (flo := 0) (fhi := 0) (by simp) (o := cr.size) (m := 1) (by omega)
              have h2 : (w.heap.push (Obj.cells cr e)).setIfInBounds w.heap.size (.cells cr e (cr.size, cr.size + 1)) = w.heap.push (.cells cr e (cap, cap + 1)) := by
                rw [hcrs]
                apply Array.ext_getElem?
                intro k
                rw [Array.getElem?_setIfInBounds, Array.getElem?_push, Array.getElem?_push]
                by_cases hk : w.heap.size = k
                · subst hk; simp
                · simp [hk, Ne.symm hk]
              have h3 : (World.freeze { w.drew with heap := w.heap.push (.cells cr e) } ⟨w.heap.size, cr.size, none⟩ 1) = { w.drew with heap := (World.freeze { w.drew with heap := w.heap.push (.cells cr e) } ⟨w.heap.size, cr.size, none⟩ 1).heap } := by
                unfold World.freeze; rw [if_neg (by omega)]
              rw [h3, h1]
              simp only [if_true]
              rw [h2]
            show ((Sem.run P (markStringish ⟨w.heap.size, 0, none⟩) { w.drew with heap := w.heap.push (.cells cr e) }).andThen fun a w' => Result.ok (Value.slice (some ⟨w.heap.size, 0, none⟩) s.size cap) w') = _
            rw [hmk]
            rfl
          intro r h2 n2 hr
          simp only [Res.ok.injEq] at hr
          obtain ⟨rfl, rfl, rfl⟩ := hr
          refine .inr ⟨.value (.slice (some ⟨w.heap.size, 0, none⟩) s.size cap), _, _, ?_, hw1.ext_add _, by omega, hnew, .value ?_⟩
          · simp only [asNext, Sem.run_bind, hs hu, hrun, Result.andThen_ok, Sem.run_pure]
          · rw [hsize]
            refine .loose (e := ⟨w.heap.size, cap, 1⟩) (Rho.add_self _ _ _) (Nat.le_refl _) (by rw [← hsize]; exact hcap) (by exact hlt) fun _ => ⟨rfl, by simp⟩
        · exact Sim.fail
      · exact Sim.fail
    · exact Sim.fail
  · exact Sim.fail
end
end Go.Am
end
section
set_option linter.unusedVariables false
namespace Go.Am
open Go Go.RowKit

section
variable {P : Program} {A : AP} {ρ : Rho} {h h' : T Ob} {n B : Nat} {w0 w : World}

theorem shape_of {r : Nat} {cr : Array Value} {el : TypeId} {f : Nat × Nat} (hh : w.heap[r]? = some (.cells cr el f)) : w.shape? r = some (el, cr.size) := by simp [World.shape?, hh]

theorem sim_toUnsafe (hA : APOk P A) (hw : WR P ρ h n B w0 w) {t src dst : TypeId} {x x' : Value} (hs : under A src = some (.pointer t)) (hd : under A dst = some .unsafePointer) (hx : VR ρ x x') :
    Sim P ρ h n B w0 w (toUnsafe A t x h n) (asNext (convert src dst x')) := by
  have hc : ∀ y, (convert src dst (.pointer y)).run P w = (Conv.unsafePointer src dst (.pointer y)).run P w := by
    intro y
    rw [convert, Sem.run_bind, run_under hA hs, Result.andThen_ok, Sem.run_bind, run_under hA hd]; rfl
  unfold toUnsafe
  split
  · cases hx
    exact Sim.val hw (v' := .pointer none) (by rw [hc]; simp [Conv.unsafePointer, run_under hA hs, run_under hA hd]) .nilPtr
  · rename_i b o
    split
    · rename_i c el lo hi hb
      split
      · rename_i s hsz
        rw [natBlt, Bool.cond_decide, llen_eq]
        split
        · rename_i hlt
          have hx2 := hx
          cases hx with
          | @ptr _ _ e he =>
            obtain ⟨cr, flo, fhi, q1, q2, q3, q4, q5, q6, q7⟩ := hw.cells hb he
            have hsh := shape_of q1
            refine Sim.val hw (v' := .pointer (some ⟨e.r, o, none⟩)) ?_ hx2
            rw [hc]
            have ho : ¬ cr.size ≤ o := by omega
            simp [Conv.unsafePointer, run_under hA hs, run_under hA hd, Conv.seenAt, viewAt, cellsIn, hsh, run_sizeOf hA hsz, ho]
        · exact Sim.fail
      · exact Sim.fail
    · exact Sim.fail
  · exact Sim.fail

theorem liesAt_head {e : TypeId} {s cells : Nat} (hc : P.cellsOf e = s + 1) (hn : s + 1 ≤ cells) : liesAt P P.depth e (cells / P.cellsOf e) 0 e 1 = true := by
  have hd : P.depth = (2 * (P.types.size + Made.depth) + 1) + 1 := rfl
  rw [hd]
  simp only [liesAt, Bool.or_eq_true]
  left
  rw [hd]
  have : 1 ≤ cells / (s + 1) := (Nat.le_div_iff_mul_le (by omega)).2 (by omega)
  simp [rowAt, hc, this, sameLayout]

theorem sim_ofUnsafe (hA : APOk P A) (hw : WR P ρ h n B w0 w) {u src dst : TypeId} {x x' : Value} (hs : under A src = some .unsafePointer) (hd : under A dst = some (.pointer u)) (hx : VR ρ x x') :
    Sim P ρ h n B w0 w (ofUnsafe A u x h n) (asNext (convert src dst x')) := by
  have hc : ∀ y, (convert src dst (.pointer y)).run P w = (Conv.unsafePointer src dst (.pointer y)).run P w := by
    intro y
    rw [convert, Sem.run_bind, run_under hA hs, Result.andThen_ok, Sem.run_bind, run_under hA hd]; rfl
  unfold ofUnsafe
  split
  · cases hx
    exact Sim.val hw (v' := .pointer none) (by rw [hc]; simp [Conv.unsafePointer, run_under hA hs, run_under hA hd]) .nilPtr
  · rename_i b o
    split
    · rename_i c el lo hi hb
      split
      · rename_i s hsz
        cases hck : (and (Nat.beq el u) (and (Nat.beq o 0) (Nat.ble (Nat.succ s) (llen c)))) with
        | false => exact Sim.fail
        | true =>
          rw [cond_true]
          rw [Bool.and_eq_true, Bool.and_eq_true] at hck
          obtain ⟨c1, c2, c3⟩ := hck
          have c1 := Nat.eq_of_beq_eq_true c1
          have c2 := Nat.eq_of_beq_eq_true c2
          have c3 := Nat.le_of_ble_eq_true c3
          rw [llen_eq] at c3
          subst c1
          subst c2
          have hx2 := hx
          cases hx with
          | @ptr _ _ e he =>
            obtain ⟨cr, flo, fhi, q1, q2, q3, q4, q5, q6, q7⟩ := hw.cells hb he
            have hsh := shape_of q1
            refine Sim.val hw (v' := .pointer (some ⟨e.r, 0, none⟩)) ?_ hx2
            rw [hc]
            have hl := liesAt_head (P := P) (e := el) (s := s) (cells := cr.size) (cellsOf_some hA hsz) (Nat.le_trans c3 q4)
            simp [Conv.unsafePointer, run_under hA hs, run_under hA hd, Conv.seenAt, viewAt, variablesAt, hsh, run_sizeOf hA hsz, hl]
      · exact Sim.fail
    · exact Sim.fail
  · exact Sim.fail

theorem sim_xConvert (hA : APOk P A) (hw : WR P ρ h n B w0 w) {tm : T Value} {src dst : TypeId} {x : Operand} {x' : Value} (hx : VR ρ (ev tm x) x') :
    Sim P ρ h n B w0 w (xConvert src dst x A tm h n) (asNext (convert src dst x')) := by
  unfold xConvert
  generalize ev tm x = v at hx
  split
  · exact Sim.fail
  · rename_i s hs
    have hrun : ∀ {d : TypeDesc} {k : TypeDesc → TypeDesc → Sem Value}, under A dst = some d → ((underlying src >>= fun a => underlying dst >>= fun b => k a b) : Sem Value).run P w = (k s d).run P w := by
      intro d k hd
      rw [Sem.run_bind, run_under hA hs, Result.andThen_ok, Sem.run_bind, run_under hA hd, Result.andThen_ok]
    split
    · rename_i kd hd
      split
      · rename_i kd' m
        cases hx
        rw [vint_eq]
        refine Sim.val hw (v' := .int kd (kd.wrap m)) ?_ (.int _ _)
        rw [convert, hrun hd]
        cases s <;> rfl
      · exact Sim.fail
    · rename_i hd
      split
      · rename_i b
        cases hx
        refine Sim.val hw (v' := .string b) ?_ (.string _)
        rw [convert, hrun hd]
        cases s <;> rfl
      · rename_i hno
        split
        · rename_i e
          have key : ∀ {a : Option Addr} {l c : Nat}, x' = .slice a l c → (convert src dst x').run P w = (do match ← underlying e with | .int .u8 => Conv.bytesToString x' | .int .i32 => Conv.runesToString x' | _ => stuck "Convert: a slice of what to string?" : Sem Value).run P w := by
            rintro a l c rfl
            rw [convert, hrun hd]
            cases a <;> rfl
          have fin : ∀ {a : Option Addr} {l c : Nat}, x' = .slice a l c → Sim P ρ h n B w0 w (bytesToStr A e v h n) (asNext (convert src dst x')) := by
            intro a l c hxx
            refine Sim.congr ?_ (sim_bytesToStr hA hw hx)
            unfold asNext
            rw [Sem.run_bind, Sem.run_bind, key hxx]
            all_goals rfl
          have hx2 := hx
          cases hx2 with
          | nilSlice l c => exact fin rfl
          | slice he hc => exact fin rfl
          | loose he _ _ _ _ => exact fin rfl
          | _ => unfold bytesToStr; split <;> exact Sim.fail
        · exact Sim.fail
    · rename_i e hd
      split
      · rename_i b
        cases hx
        refine sim_strToBytes hA hw fun hu => ?_
        rw [convert, hrun hd]
        have : ((underlying e >>= fun a => match a with | .int .u8 => Conv.stringToBytes e b | .int .i32 => Conv.stringToRunes e b | _ => stuck "Convert: string to a slice of what?") : Sem Value).run P w = (Conv.stringToBytes e b).run P w := by
          rw [Sem.run_bind, run_under hA hu]; rfl
        cases s <;> exact this
      · rename_i hno
        split
        · rename_i e'
          refine sim_markStr hA hw hx fun a l c hsd hu hx' => ?_
          subst hx'
          rw [convert, hrun hd]
          show ((underlying e >>= fun d => match src == dst, d with | true, .int .u8 => (do markStringish a; pure (.slice (some a) l c)) | _, _ => unsupported (.noEntry "convert/other")) : Sem Value).run P w = _
          rw [Sem.run_bind, run_under hA hu, Result.andThen_ok]
          have hb : (src == dst) = true := by rw [hsd]; simp
          rw [hb]
        · exact Sim.fail
    · rename_i hd
      split
      · exact sim_toUnsafe hA hw hs hd hx
      · exact Sim.fail
    · rename_i u hd
      split
      · exact sim_ofUnsafe hA hw hs hd hx
      · exact Sim.fail
    · exact Sim.fail

/-! strings and slices by their addresses -/
theorem sim_sliceData (hw : WR P ρ h n B w0 w) {ts ts' : List TypeId} {args : List Value} {args' : Array Value} (ha : VRs ρ args args'.toList) {tsa : Array TypeId} {ty : TypeId} :
    Sim P ρ h n B w0 w (bSliceData A ts args h n) (asNext (Builtin.unsafeSliceData_ tsa ty args')) := by
  unfold bSliceData
  split
  · obtain ⟨y, ys, h1, h2, h3⟩ := VRs.of_cons ha
    have h4 := VRs.of_nil h3
    subst h4
    have : args' = #[y] := Array.toList_inj.1 h1
    subst this
    cases h2
    exact Sim.val hw (v' := .pointer none) rfl .nilPtr
  · rename_i a l c
    obtain ⟨y, ys, h1, h2, h3⟩ := VRs.of_cons ha
    have h4 := VRs.of_nil h3
    subst h4
    have : args' = #[y] := Array.toList_inj.1 h1
    subst this
    cases hck : (or (Nat.beq c 0) (and (Nat.ble LOOSE c) (Nat.beq (Nat.mod c LOOSE) 0))) with
    | true => exact Sim.fail
    | false =>
      rw [cond_false]
      rw [Bool.or_eq_false_iff, natBeq] at hck
      obtain ⟨c1, c2⟩ := hck
      have c1 := of_decide_eq_false c1
      cases h2 with
      | @slice b o _ _ e he hc =>
        refine Sim.val hw (v' := .pointer (some ⟨e.r, o, none⟩)) ?_ (.ptr he)
        exact Go.Lib.run_unsafeSliceData_row w tsa ty ⟨e.r, o, none⟩ l c c1
      | @loose b o o' _ c0 c' e he g1 g2 g3 g4 =>
        have hc0 : c0 ≠ 0 := by
          rintro rfl
          have e1 : Nat.ble LOOSE (0 + LOOSE * (e.s + 1)) = true := by
            rw [natBle]
            refine decide_eq_true ?_
            have := loose_not (c := 0) (s := e.s)
            omega
          rw [e1, loose_mod (by exact g3)] at c2
          exact absurd c2 (by decide)
        obtain ⟨rfl, _⟩ := g4 (by omega)
        refine Sim.val hw (v' := .pointer (some ⟨e.r, o', none⟩)) ?_ (.ptr he)
        exact Go.Lib.run_unsafeSliceData_row w tsa ty ⟨e.r, o', none⟩ l c' (by omega)
  · exact Sim.fail

theorem sim_strOfPtr (hA : APOk P A) (hw : WR P ρ h n B w0 w) {t ty : TypeId} {b o m : Nat} {e : Ent} (he : ρ b = some e) (hm : m ≠ 0) {tsa : Array TypeId} (hts : tsa[0]? = some t) {kd : IntKind} :
    Sim P ρ h n B w0 w (strOfPtr A t b o m h n) (asNext (Builtin.unsafeString_ tsa ty #[.pointer (some ⟨e.r, o, none⟩), .int kd (.ofNat m)])) := by
  unfold strOfPtr
  split
  · rename_i c el lo hi hb
    split
    · rename_i el' hu
      cases hck : (and (Nat.beq el el') (and (Nat.beq o 0) (and (strOfPtr.oneByte A el') (Nat.ble m 9223372036854775807)))) with
      | false => exact Sim.fail
      | true =>
        rw [cond_true]
        rw [Bool.and_eq_true, Bool.and_eq_true, Bool.and_eq_true] at hck
        obtain ⟨c1, c2, c3, c4⟩ := hck
        have c1 := Nat.eq_of_beq_eq_true c1
        have c2 := Nat.eq_of_beq_eq_true c2
        have c4 := Nat.le_of_ble_eq_true c4
        have hsz : sizeOfT A el' = some 1 := by
          unfold strOfPtr.oneByte at c3
          split at c3
          · rename_i s hs; rw [hs, Nat.eq_of_beq_eq_true c3]
          · simp at c3
        subst c1
        subst c2
        rw [ltakeK_eq, ldrop_eq, List.drop_zero]
        split
        · rename_i hle
          rw [valBytes_eq]
          split
          · rename_i bs hbs
            obtain ⟨cr, flo, fhi, q1, q2, q3, q4, q5, q6, q7⟩ := hw.cells hb he
            obtain ⟨vs, g1, g2, g3⟩ := stretch (o := 0) q5 (by simpa using hle)
            rw [List.drop_zero] at g3
            have hvs := valB_rel g3 hbs
            have hcells : P.cellsOf el = 1 := cellsOf_some hA hsz
            have hbs' : valB vs = some bs := by rw [hvs]; exact hbs
            have hlb := run_loadBytes' (P := P) (w := w) (vs := vs) (bs := bs) e.r 0 .empty hbs' (fun j x hx => by rw [cell_of q1]; exact g2 j x hx)
            rw [g1] at hlb
            have hlies := Go.Lib.liesAt_bytes (P := P) hcells (cr.size / P.cellsOf el) m (by rw [hcells, Nat.div_one]; omega)
            have hsh := shape_of q1
            have hrun : (Builtin.unsafeString_ tsa ty #[.pointer (some ⟨e.r, 0, none⟩), .int kd (.ofNat m)]).run P w = .ok (.string ⟨bs.toArray⟩) (w.freeze ⟨e.r, 0, none⟩ m) := by
              have hmax : IntKind.i64.max = 9223372036854775807 := rfl
              have hneg : ¬ (m : Int) < 0 := by omega
              have h63' : ¬ (9223372036854775807 : Int) < (m : Int) := by omega
              have hel : (elemOf t).run P w = .ok el w := by simp [elemOf, run_under hA hu]
              have hai : (asInt (.int kd (.ofNat m))).run P w = .ok (m : Int) w := by simp [asInt, asIntOf]
              show Sem.run P (asInt (.int kd (.ofNat m)) >>= _) w = _
              rw [Sem.run_bind, hai, Result.andThen_ok]
              simp only [hts]
              simp [hmax, h63', hneg, hm, variablesAt, hsh, hel, hlies, hlb]
            have hput : ∀ {lo' hi' : Nat} {t' : T Ob}, h.put b (.cells c el lo' hi') = some t' → h.setK b (.cells c el lo' hi') none some = some t' := fun hh => hh
            have fin : ∀ {t' : T Ob}, hullK lo hi 0 (0 + m) (fun lo' hi' => h.setK b (.cells c el lo' hi') none some) = some t' → Sim P ρ h n B w0 w (.ok (.value (str bs)) t' n) (asNext (Builtin.unsafeString_ tsa ty #[.pointer (some ⟨e.r, 0, none⟩), .int kd (.ofNat m)])) := by
              intro t' ht
              have hwf := hw.frz hb he (o := 0) (m := m) hm (Nat.le_refl _) (.inr (by omega)) (.inl (by omega)) ht
              intro r h2 n2 hr
              simp only [Res.ok.injEq] at hr
              obtain ⟨rfl, rfl, rfl⟩ := hr
              refine .inr ⟨.value (.string ⟨bs.toArray⟩), _, ρ, ?_, Ext.refl _ _, Nat.le_refl _, hwf, .value (.string _)⟩
              simp only [asNext, Sem.run_bind, hrun, Result.andThen_ok, Sem.run_pure]
            rw [natAdd]
            rw [hullK_eq] at fin ⊢
            split at fin
            · rename_i hc; rw [if_pos hc, T.setK_eq]
              split
              · rename_i t' ht; exact fin (hput ht)
              · exact Sim.fail
            · rename_i hc; rw [if_neg hc, T.setK_eq]
              split
              · rename_i t' ht; exact fin (hput ht)
              · exact Sim.fail
          · exact Sim.fail
        · exact Sim.fail
    · exact Sim.fail
  · exact Sim.fail
end
end Go.Am
end
section
set_option linter.unusedVariables false
namespace Go.Am
open Go Go.RowKit

section
variable {P : Program} {A : AP} {ρ : Rho} {h h' : T Ob} {n B : Nat} {w0 w : World}

theorem sim_xMakeSlice (hA : APOk P A) (hw : WR P ρ h n B w0 w) {tm : T Value} {t : TypeId} {l c : Operand} {l' c' : Value} (hl : VR ρ (ev tm l) l') (hc : VR ρ (ev tm c) c') :
    Sim P ρ h n B w0 w (xMakeSlice t l c A tm h n) (asNext (Instr.makeSlice t l' c')) := by
  unfold xMakeSlice
  generalize ev tm l = lv at hl
  generalize ev tm c = cv at hc
  split
  · rename_i el hu
    split
    · rename_i kl l
      split
      · rename_i kc c
        split
        · rename_i i hi
          split
          · rename_i z hz
            cases hl; cases hc
            cases hck : (and (and (Nat.ble l c) (Nat.ble c 9223372036854775807)) (and (Nat.ble (Nat.mul i.bytes c) 281474976710656) (Nat.beq (llen (cellsOf z)) i.size))) with
            | false => exact Sim.fail
            | true =>
              rw [cond_true]
              rw [Bool.and_eq_true, Bool.and_eq_true, Bool.and_eq_true] at hck
              obtain ⟨⟨c1, c2⟩, c3, c4⟩ := hck
              have c1 : l ≤ c := Nat.le_of_ble_eq_true c1
              have c2 : c ≤ 9223372036854775807 := Nat.le_of_ble_eq_true c2
              have c3 : i.bytes * c ≤ 281474976710656 := Nat.le_of_ble_eq_true c3
              have c4 := Nat.eq_of_beq_eq_true c4
              rw [llen_eq] at c4
              rw [repK_eq, List.append_nil]
              have hPi := hA.types _ _ hi
              have hzero : zeroT A el = some z := by simp only [zeroT, hi]; exact hz
              have hszT : sizeOfT A el = some i.size := by simp only [sizeOfT, hi]
              have hrel := zeros_rel (ρ := ρ) (len := c) (zero_plain hA hzero) c4
              refine Sim.congr ?_ (sim_newSlice hw (el := el) (why := 134) (l := l) (cap := c) (lt_loose c2) hrel)
              have w1 : IntKind.i64.wrap (Int.ofNat l) = (l : Int) := wrap_i64 _ (by rw [Int.ofNat_eq_natCast]; omega) (by rw [Int.ofNat_eq_natCast]; omega)
              have w2 : IntKind.i64.wrap (Int.ofNat c) = (c : Int) := wrap_i64 _ (by rw [Int.ofNat_eq_natCast]; omega) (by rw [Int.ofNat_eq_natCast]; omega)
              have hti : ∀ w, (typeInfo el).run P w = .ok i w := fun w => by simp [typeInfo, hPi]
              have n1 : ¬ ((c : Int) < 0) := by omega
              have n2 : ¬ ((i.bytes : Int) * (c : Int) > 2 ^ 48) := by
                have : ((i.bytes * c : Nat) : Int) ≤ 281474976710656 := by omega
                rw [Int.natCast_mul] at this
                omega
              have n3 : ¬ ((l : Int) < 0) := by omega
              have n4 : ¬ ((l : Int) > (c : Int)) := by omega
              unfold asNext Instr.makeSlice
              rw [Sem.run_bind, Sem.run_bind, Sem.run_bind, run_under hA hu, Result.andThen_ok]
              have a1 : ∀ (k : IntKind) (m : Nat) (w : World), (asInt (.int k (Int.ofNat m))).run P w = .ok (Int.ofNat m) w := fun k m w => by simp [asInt, asIntOf]
              simp only [Sem.run_bind, a1, hti, Result.andThen_ok, w1, w2]
              have hcond : (decide ((c : Int) < 0) || decide ((i.bytes : Int) * (c : Int) > 2 ^ 48) || decide ((l : Int) < 0) || decide ((l : Int) > (c : Int))) = false := by
                rw [decide_eq_false n1, decide_eq_false n2, decide_eq_false n3, decide_eq_false n4]; rfl
              rw [hcond]
              simp only [Bool.false_eq_true, if_false, Sem.run_bind, run_askRoom, Result.andThen_ok, run_sizeOf hA hszT, Int.toNat_natCast]
              by_cases h0 : c * i.size = 0
              · rw [if_pos h0]
                have hr : Array.range 0 = #[] := rfl
                simp [h0, hr, newRow]
              · rw [if_neg h0]
                simp [run_zero hA hzero, newRow]
          · exact Sim.fail
        · exact Sim.fail
      · exact Sim.fail
    · exact Sim.fail
  · exact Sim.fail

/-! maps -/
theorem setEntryK_eq {β : Type} {key v : Value} : ∀ {i : Nat} {es : List MapEntry} {f : β} {k : List MapEntry → β}, setEntryK key v i es f k = match setEntryK key v i es none some with | some es' => k es' | none => f
  | _, [], f, k => by unfold setEntryK; rfl
  | 0, e :: es, f, k => by unfold setEntryK; rfl
  | i + 1, e :: es, f, k => by
    unfold setEntryK
    have h1 := setEntryK_eq (key := key) (v := v) (i := i) (es := es) (f := f) (k := fun l => k (e :: l))
    have h2 := setEntryK_eq (key := key) (v := v) (i := i) (es := es) (f := (none : Option (List MapEntry))) (k := fun l => some (e :: l))
    rw [h1, h2]
    cases setEntryK key v i es none some <;> rfl

theorem setEntry_rel {key key' v v' : Value} (hk : VR ρ key key') (hv : VR ρ v v') : ∀ {i : Nat} {es er es' : List MapEntry}, ERs ρ es er → setEntryK key v i es none some = some es' → (∀ e, er[i]? = some e → e.key = key') → ERs ρ es' (er.modify i fun e => { e with key := key', val := v' })
  | _, [], er, es', hs, he, _ => by unfold setEntryK at he; simp at he
  | 0, e :: es, er, es', hs, he, _ => by
    obtain ⟨y, ys, rfl, h1, h2, h3, h4⟩ := ERs.of_cons hs
    unfold setEntryK at he
    simp only [Option.some.injEq] at he
    subst he
    simp only [List.modify_zero_cons]
    exact ERs.cons hk hv h3 h4
  | i + 1, e :: es, er, es', hs, he, hq => by
    obtain ⟨y, ys, rfl, h1, h2, h3, h4⟩ := ERs.of_cons hs
    unfold setEntryK at he
    rw [setEntryK_eq] at he
    split at he
    · rename_i l hl
      simp only [Option.some.injEq] at he
      subst he
      rw [List.modify_succ_cons]
      exact ERs.cons h1 h2 h3 (setEntry_rel hk hv h4 hl (fun e he => hq e (by simpa using he)))
    · simp at he

theorem sameBits_self {key key' : Value} (hk : VR ρ key key') (hd : (∃ kd m, key = .int kd m) ∨ ∃ s, key = .string s) (d : Nat) : Instr.sameBits d key' key' = true := by
  rcases hd with ⟨kd, m, rfl⟩ | ⟨s, rfl⟩
  · cases hk; simp [Instr.sameBits]
  · cases hk
    have : (s == s) = true := (bytes_beq s s).2 rfl
    simp only [Instr.sameBits, this]

theorem sim_mapUpdate (hA : APOk P A) (hw : WR P ρ h n B w0 w) {t : TypeId} {m m' key key' v v' : Value} (hm : VR ρ m m') (hkey : VR ρ key key') (hv : VR ρ v v') :
    Sim P ρ h n B w0 w (mapUpdateX A t m key v h n) (do Instr.mapUpdate t m' key' v'; pure .skip) := by
  unfold mapUpdateX
  split
  · rename_i r
    split
    · rename_i es clock hg
      split
      · rename_i kt el hu
        cases hk : plainKey A kt key with
        | false => exact Sim.fail
        | true =>
          rw [cond_true]
          cases hm with
          | @map _ e he =>
            obtain ⟨er, g1, g2, g3⟩ := run_getMap (P := P) hw hg he
            have hck : (Instr.checkKey false 10000 kt key').run P w = .ok () w := run_checkKey hA hkey hk false 9999 (by omega)
            split
            · rename_i i x hf
              obtain ⟨d, hd1, hd2⟩ := plainKey_kind hA hk hf
              rcases find_rel hkey g3 hd2 hf with ⟨f1, f2⟩ | ⟨j', v1, v2, f1, f2, f3, f4, f5⟩
              · simp at f1
              · simp only [Option.some.injEq, Prod.mk.injEq, Nat.add_zero] at f1
                obtain ⟨rfl, rfl⟩ := f1
                obtain ⟨ent, hent, hentk⟩ := f5
                have hne : es ≠ [] := by rintro rfl; simp at f4
                have hkind : (∃ kd m, key = .int kd m) ∨ ∃ s, key = .string s := by
                  rcases hd2 with h0 | ⟨k, _, kd, m, h1⟩ | ⟨_, s, h1⟩
                  · exact absurd h0 hne
                  · exact .inl ⟨kd, m, h1⟩
                  · exact .inr ⟨s, h1⟩
                have hfk : (Instr.findKey kt key' er.toList).run P w = .ok (some (i, v2)) w := by
                  simp only [Instr.findKey, underlying, Sem.run_bind, run_program, Result.andThen_ok, hd1, Sem.run_pure, f2, Nat.add_zero]
                rw [setEntryK_eq]
                split
                · rename_i es' hes
                  rw [T.setK_eq]
                  split
                  · rename_i h' hp
                    have hent' : er[i]? = some ent := by simpa using hent
                    have hstay : (Instr.keyThatStays key' key').run P w = .ok key' w := by
                      unfold Instr.keyThatStays
                      rw [sameBits_self hkey hkind]; rfl
                    have hrel := setEntry_rel hkey hv g3 hes (fun e he => by rw [hent] at he; cases he; exact hentk)
                    have hset := run_setOb (P := P) (o := .map (er.modify i fun e => { e with key := key', val := v' }) clock) g2 (by simp)
                    intro r2 h2 n2 hr
                    simp only [Res.ok.injEq] at hr
                    obtain ⟨rfl, rfl, rfl⟩ := hr
                    refine .inr ⟨.skip, _, ρ, ?_, Ext.refl _ _, Nat.le_refl _, hw.setOb hg rfl he hp (o := .map (er.modify i fun e => { e with key := key', val := v' }) clock) (fun heap hh => ⟨_, hh, by simpa using hrel⟩), .skip⟩
                    simp only [Instr.mapUpdate, Sem.run_bind, run_under hA hu, Result.andThen_ok, g1, hck, hfk, hent', Option.map_some, Option.getD_some, hentk, hstay, hset, Sem.run_pure]
                  · exact Sim.fail
                · exact Sim.fail
            · rename_i hf
              obtain ⟨d, hd1, hd2⟩ := plainKey_kind hA hk hf
              rcases find_rel hkey g3 hd2 hf with ⟨f1, f2⟩ | ⟨j', v1, v2, f1, f2, f3, f4, f5⟩
              · have hfk : (Instr.findKey kt key' er.toList).run P w = .ok none w := by
                  simp [Instr.findKey, underlying, hd1, f2]
                rw [lappK_eq, natK_eq, T.setK_eq]
                split
                · rename_i h' hp
                  have hset := run_setOb (P := P) (o := .map (er.push { key := key', val := v', born := clock }) (clock + 1)) g2 (by simp)
                  have hrel : ERs ρ (es ++ [⟨key, v, clock⟩]) (er.push { key := key', val := v', born := clock }).toList := by
                    rw [Array.toList_push]
                    exact ERs.append g3 (ERs.cons hkey hv rfl ERs.nil)
                  intro r2 h2 n2 hr
                  simp only [Res.ok.injEq] at hr
                  obtain ⟨rfl, rfl, rfl⟩ := hr
                  refine .inr ⟨.skip, _, ρ, ?_, Ext.refl _ _, Nat.le_refl _, hw.setOb hg rfl he hp (o := .map (er.push { key := key', val := v', born := clock }) (clock + 1)) (fun heap hh => ⟨_, hh, hrel⟩), .skip⟩
                  simp only [Instr.mapUpdate, Sem.run_bind, run_under hA hu, Result.andThen_ok, g1, hck, hfk, hset, Sem.run_pure]
                · exact Sim.fail
              · simp at f1
            · exact Sim.fail
      · exact Sim.fail
    · exact Sim.fail
  · exact Sim.fail
end
end Go.Am
end
section
set_option linter.unusedVariables false
namespace Go.Am
open Go Go.RowKit

section
variable {P : Program} {A : AP} {ρ : Rho} {h h' : T Ob} {n B : Nat} {w0 w : World}

theorem sim_nextX (hw : WR P ρ h n B w0 w) {it it' : Value} {s : Bool} {ty : TypeId} (hi : VR ρ it it') : Sim P ρ h n B w0 w (nextX it s h n) (asNext (Instr.next it' s ty)) := by
  unfold nextX
  split
  · rename_i r
    cases hi with
    | @ptr _ _ e he =>
      split
      · rename_i st pos hg
        cases s with
        | false => exact Sim.fail
        | true =>
          rw [cond_true]
          have q1 : w.heap[e.r]? = some (.stringIter st pos) := hw.live r _ hg e he
          have hgo := run_getOb (P := P) q1 (by simp)
          unfold nextStr
          rw [lnth_eq]
          split
          · rename_i b hb
            simp only [natK_eq]
            rw [natBlt, Bool.cond_decide]
            split
            · rename_i hlt
              rw [T.setK_eq]
              split
              · rename_i h' hp
                have hpos : pos < st.size := by
                  have : pos < st.data.toList.length := by
                    rcases Nat.lt_or_ge pos st.data.toList.length with h1 | h1
                    · exact h1
                    · rw [List.getElem?_eq_none h1] at hb; simp at hb
                  simpa using this
                have hbe : st[pos]'hpos = b := by
                  have : st.data.toList[pos]? = some (st[pos]'hpos) := by
                    rw [Array.getElem?_toList]
                    exact Array.getElem?_eq_getElem hpos
                  rw [this] at hb
                  exact Option.some.inj hb
                have hdec : Utf8.decode st pos = (b.toNat, 1) := by
                  rw [decode_ascii st pos hpos (by rw [hbe]; exact hlt), hbe]
                have hset := run_setOb (P := P) (o := .stringIter st (pos + 1)) q1 (by simp)
                intro r2 h2 n2 hr
                simp only [Res.ok.injEq] at hr
                obtain ⟨rfl, rfl, rfl⟩ := hr
                refine .inr ⟨.value (.tuple #[.bool true, .int .i64 (.ofNat pos), .int .i32 (.ofNat b.toNat)]), _, ρ, ?_, Ext.refl _ _, Nat.le_refl _, hw.setOb hg rfl he hp (o := .stringIter st (pos + 1)) (fun heap hh => hh), .value (VRs.toTuple (VRs.cons (.bool true) (VRs.cons (.int _ _) (VRs.cons (.int _ _) VRs.nil))))⟩
                simp only [asNext, Instr.next, Sem.run_bind, hgo, Result.andThen_ok, hpos, if_true, hdec, hset, Sem.run_pure]
                rfl
              · exact Sim.fail
            · exact Sim.fail
          · rename_i hb
            have hpos : ¬ pos < st.size := by
              intro hp
              have : st.data.toList[pos]? = some (st[pos]'hp) := by
                rw [Array.getElem?_toList]
                exact Array.getElem?_eq_getElem hp
              rw [this] at hb
              simp at hb
            refine Sim.val hw (v' := .tuple #[.bool false]) ?_ (VRs.toTuple (VRs.cons (.bool false) VRs.nil))
            simp only [Instr.next, Sem.run_bind, hgo, Result.andThen_ok, hpos, if_false, Sem.run_pure]
      · rename_i m since seen last hg
        cases s with
        | true => exact Sim.fail
        | false =>
          rw [cond_false]
          obtain ⟨m', q1, q2⟩ := hw.live r _ hg e he
          have hgo := run_getOb (P := P) q1 (by simp)
          have over : ∀ {s : Sem Value}, s.run P w = .ok (.tuple #[.bool false]) w → Sim P ρ h n B w0 w (.ok (.value Am.over) h n) (asNext s) := fun hs => Sim.val hw (v' := .tuple #[.bool false]) hs (VRs.toTuple (VRs.cons (.bool false) VRs.nil))
          split
          · cases q2
            exact over (by simp only [Instr.next, Sem.run_bind, hgo, Result.andThen_ok, Sem.run_pure])
          · rename_i mm
            cases q2 with
            | @map _ em hem =>
              unfold nextMap
              split
              · rename_i es clock hgm
                obtain ⟨er, g1, g2, g3⟩ := run_getMap (P := P) hw hgm hem
                split
                · have her : er = #[] := Array.toList_inj.1 (ERs.of_nil g3)
                  subst her
                  refine over ?_
                  simp [Instr.next, hgo, g1, Question.forced]
                · rename_i key val born
                  obtain ⟨y, ys, hy, k1, k2, k3, k4⟩ := ERs.of_cons g3
                  rw [ERs.of_nil k4] at hy
                  have her : er = #[y] := Array.toList_inj.1 hy
                  subst her
                  simp only at k1 k2 k3
                  split
                  · rw [natBlt, Bool.cond_decide]
                    split
                    · rename_i hlt
                      rw [T.setK_eq]
                      split
                      · rename_i h' hp
                        have hset := run_setOb (P := P) (o := .mapIter (some em.r) since #[y.born] clock) q1 (by simp)
                        intro r2 h2 n2 hr
                        simp only [Res.ok.injEq] at hr
                        obtain ⟨rfl, rfl, rfl⟩ := hr
                        refine .inr ⟨.value (.tuple #[.bool true, y.key, y.val]), _, ρ, ?_, Ext.refl _ _, Nat.le_refl _, hw.setOb hg rfl he hp (o := .mapIter (some em.r) since #[y.born] clock) (fun heap hh => ⟨some em.r, by rw [k3]; exact hh, .map hem⟩), .value (VRs.toTuple (VRs.cons (.bool true) (VRs.cons k1 (VRs.cons k2 VRs.nil))))⟩
                        have hb1 : y.born < since := by rw [← k3]; exact hlt
                        have hb2 : ¬ (since ≤ y.born) := by omega
                        simp [asNext, Instr.next, hgo, g1, Question.forced, hb1, hb2, hset]
                      · exact Sim.fail
                    · exact Sim.fail
                  · rename_i sb
                    cases hck : (and (Nat.beq sb born) (Nat.blt born last)) with
                    | false => exact Sim.fail
                    | true =>
                      rw [cond_true]
                      rw [Bool.and_eq_true] at hck
                      have c1 := Nat.eq_of_beq_eq_true hck.1
                      have c2 : born < last := by have := hck.2; rw [natBlt] at this; exact of_decide_eq_true this
                      refine over ?_
                      have hb : y.born = sb := by rw [c1, k3]
                      have hb2 : ¬ (last ≤ sb) := by omega
                      simp [Instr.next, hgo, g1, Question.forced, hb, hb2]
                  · exact Sim.fail
                · exact Sim.fail
              · exact Sim.fail
      · exact Sim.fail
  · exact Sim.fail

/-! lengths -/
theorem sim_bLen (hA : APOk P A) (hw : WR P ρ h n B w0 w) {ts : Array TypeId} {ty : TypeId} {args : List Value} {args' : Array Value} (ha : VRs ρ args args'.toList) :
    Sim P ρ h n B w0 w (bLen A ts.toList args h n) (asNext (Builtin.len_ ts ty args')) := by
  unfold bLen
  split
  · rename_i x
    obtain ⟨y, ys, h1, hx, h3⟩ := VRs.of_cons ha
    have h4 := VRs.of_nil h3
    subst h4
    have : args' = #[y] := Array.toList_inj.1 h1
    subst this
    split
    · rename_i t ts' hts
      have ht : ts[0]? = some t := by rw [← Array.getElem?_toList, hts]; rfl
      split
      · rename_i m hm
        rw [natK_eq]
        refine Sim.val hw (v' := .int .i64 (.ofNat m)) ?_ (.int _ _)
        simp only [Builtin.len_, ht]
        show Sem.run P (underlying t >>= _) w = _
        unfold lenF at hm
        split at hm
        · rename_i hu
          rw [Sem.run_bind, run_under hA hu, Result.andThen_ok]
          split at hm
          · rename_i s
            cases hx
            simp only [llen_eq, Option.some.injEq] at hm
            have : s.size = m := by rw [← hm]; exact (Array.length_toList (xs := s.data)).symm
            subst this
            rfl
          · simp at hm
        · rename_i k el hu
          rw [Sem.run_bind, run_under hA hu, Result.andThen_ok]
          simp only [Option.some.injEq] at hm
          subst hm
          cases hx <;> rfl
        · rename_i a hu
          rw [Sem.run_bind, run_under hA hu, Result.andThen_ok]
          split at hm
          · rename_i k el hu2
            simp only [Option.some.injEq] at hm
            subst hm
            have : ((underlying a >>= fun d => match d with | .array n _ => pure (goInt n) | _ => stuck "len: pointer to array expected") : Sem Value).run P w = .ok (goInt (k : Nat)) w := by
              rw [Sem.run_bind, run_under hA hu2]; rfl
            cases hx <;> exact this
          · simp at hm
        · rename_i el hu
          rw [Sem.run_bind, run_under hA hu, Result.andThen_ok]
          split at hm
          · simp only [Option.some.injEq] at hm
            subst hm
            cases hx <;> rfl
          · simp at hm
        · rename_i k el hu
          rw [Sem.run_bind, run_under hA hu, Result.andThen_ok]
          split at hm
          · cases hx
            simp only [Option.some.injEq] at hm
            subst hm
            rfl
          · rename_i r
            split at hm
            · rename_i es clock hg
              simp only [llen_eq, Option.some.injEq] at hm
              subst hm
              cases hx with
              | @map _ e he =>
                obtain ⟨er, g1, g2, g3⟩ := run_getMap (P := P) hw hg he
                show Sem.run P (getObj e.r >>= _) w = _
                rw [Sem.run_bind, g1, Result.andThen_ok]
                have : er.size = es.length := by have := g3.1; rw [this]; simp
                rw [← this]
                rfl
            · simp at hm
          · simp at hm
        · simp at hm
      · exact Sim.fail
    · exact Sim.fail
  · exact Sim.fail
end
end Go.Am
end
section
set_option linter.unusedVariables false
namespace Go.Am
open Go Go.RowKit

section
variable {P : Program} {A : AP} {ρ : Rho} {h h' : T Ob} {n B : Nat} {w0 w : World}

theorem sim_fold {isMax : Bool} {f : Value → Value → Sem Value} (hf : ∀ k k' x y, f (.int k x) (.int k' y) = pure (.int k (if isMax then (if y > x then y else x) else (if y < x then y else x)))) {kd : IntKind} : ∀ {xs xs' : List Value} {x : Int} {v : Value}, VRs ρ xs xs' → foldMax isMax kd x xs none some = some v →
    (xs'.foldlM f (.int kd x)).run P w = .ok v w ∧ ∃ m, v = .int kd m
  | [], xs', x, v, hx, hv => by
    rw [VRs.of_nil hx]
    simp only [foldMax, Option.some.injEq] at hv
    subst hv
    exact ⟨rfl, _, rfl⟩
  | y :: ys, xs', x, v, hx, hv => by
    obtain ⟨y', ys', rfl, h1, h2⟩ := VRs.of_cons hx
    simp only [foldMax] at hv
    split at hv
    · rename_i kd' b
      cases h1
      rw [kindEq_eq, Bool.cond_decide] at hv
      split at hv
      · rw [List.foldlM_cons, hf, pure_bind]
        have e : (cond (intLt x b) (cond isMax b x) (cond (intEq x b) x (cond isMax x b))) = (if isMax then (if b > x then b else x) else (if b < x then b else x)) := by
          rw [intLt_eq, intEq_eq]
          cases isMax with
          | true =>
            by_cases h1 : x < b
            · simp [h1]
            · by_cases h2 : x = b
              · simp [h2]
              · simp [h1]
          | false =>
            by_cases h1 : x < b
            · have : ¬ b < x := by omega
              simp [h1, this]
            · by_cases h2 : x = b
              · simp [h2]
              · have : b < x := by omega
                simp [h1, h2, this]
        rw [← e]
        exact sim_fold hf h2 hv
      · simp at hv
    · simp at hv

theorem sim_bFold (hw : WR P ρ h n B w0 w) {isMax : Bool} {f : Value → Value → Sem Value} (hf : ∀ k k' x y, f (.int k x) (.int k' y) = pure (.int k (if isMax then (if y > x then y else x) else (if y < x then y else x)))) {ts : List TypeId} {args : List Value} {args' : Array Value} (ha : VRs ρ args args'.toList)
    {s : Sem Value} (hs : ∀ x xs, args'.toList = x :: xs → s = xs.foldlM f x) : Sim P ρ h n B w0 w (bFold isMax A ts args h n) (asNext s) := by
  unfold bFold
  split
  · rename_i kd x xs
    obtain ⟨y, ys, h1, hx, h3⟩ := VRs.of_cons ha
    cases hx
    rw [hs _ _ h1]
    refine Sim.ofV hw fun v hv => ?_
    obtain ⟨g1, m, rfl⟩ := sim_fold (P := P) (w := w) hf h3 hv
    exact ⟨_, g1, .int _ _⟩
  · exact Sim.fail

theorem one_arg {x : Value} {args' : Array Value} (ha : VRs ρ [x] args'.toList) : ∃ y, args' = #[y] ∧ VR ρ x y := by
  obtain ⟨y, ys, h1, hx, h3⟩ := VRs.of_cons ha
  have h4 := VRs.of_nil h3
  subst h4
  exact ⟨y, Array.toList_inj.1 h1, hx⟩
theorem two_args {x1 x2 : Value} {args' : Array Value} (ha : VRs ρ [x1, x2] args'.toList) : ∃ y1 y2, args' = #[y1, y2] ∧ VR ρ x1 y1 ∧ VR ρ x2 y2 := by
  obtain ⟨y, ys, h1, hx, h3⟩ := VRs.of_cons ha
  obtain ⟨z, zs, h4, hz, h5⟩ := VRs.of_cons h3
  have h6 := VRs.of_nil h5
  subst h6; subst h4
  exact ⟨y, z, Array.toList_inj.1 h1, hx, hz⟩

theorem sim_bAppend (hA : APOk P A) (hw : WR P ρ h n B w0 w) {ts : Array TypeId} {ty : TypeId} {args : List Value} {args' : Array Value} (ha : VRs ρ args args'.toList) :
    Sim P ρ h n B w0 w (bAppend A ts.toList args h n) (asNext (Builtin.append_ ts ty args')) := by
  unfold bAppend
  split
  · rename_i s x
    obtain ⟨y1, y2, rfl, h1, h2⟩ := two_args ha
    split
    · rename_i t xt ts' hts
      have ht : ts[0]? = some t := by rw [← Array.getElem?_toList, hts]; rfl
      have hxt : ts[1]? = some xt := by rw [← Array.getElem?_toList, hts]; rfl
      split
      · exact Sim.fail
      · rename_i d hno hd
        exact sim_appendX hA hw ht hxt hd (fun k hk => by subst hk; exact hno k rfl) h1 h2
      · exact Sim.fail
    · exact Sim.fail
  · exact Sim.fail

theorem sim_bCopy (hA : APOk P A) (hw : WR P ρ h n B w0 w) {ts : Array TypeId} {ty : TypeId} {args : List Value} {args' : Array Value} (ha : VRs ρ args args'.toList) :
    Sim P ρ h n B w0 w (bCopy A ts.toList args h n) (asNext (Builtin.copy_ ts ty args')) := by
  unfold bCopy
  split
  · obtain ⟨y1, y2, rfl, h1, h2⟩ := two_args ha
    split
    · rename_i t ts' hts
      have ht : ts[0]? = some t := by rw [← Array.getElem?_toList, hts]; rfl
      exact sim_copyX hA hw h1 h2 ht
    · exact Sim.fail
  · exact Sim.fail

theorem sim_bString (hA : APOk P A) (hw : WR P ρ h n B w0 w) {ts : Array TypeId} {ty : TypeId} {args : List Value} {args' : Array Value} (ha : VRs ρ args args'.toList) :
    Sim P ρ h n B w0 w (bString A ts.toList args h n) (asNext (Builtin.unsafeString_ ts ty args')) := by
  unfold bString
  split
  · rename_i p kd m
    obtain ⟨y1, y2, rfl, h1, h2⟩ := two_args ha
    cases h2
    split
    · rename_i t ts' hts
      have ht : ts[0]? = some t := by rw [← Array.getElem?_toList, hts]; rfl
      split
      · refine Sim.val hw (v' := .string .empty) ?_ (.string _)
        have hmax : IntKind.i64.max = 9223372036854775807 := rfl
        have hai : (asInt (.int kd (.ofNat 0))).run P w = .ok (0 : Int) w := by simp [asInt, asIntOf]
        cases h1
        · show Sem.run P (asInt (.int kd (.ofNat 0)) >>= _) w = _
          rw [Sem.run_bind, hai, Result.andThen_ok]
          simp only [ht]
          simp [hmax]
        · show Sem.run P (asInt (.int kd (.ofNat 0)) >>= _) w = _
          rw [Sem.run_bind, hai, Result.andThen_ok]
          simp only [ht]
          simp [hmax]
      · rename_i m'
        split
        · rename_i b o
          cases h1 with
          | ptr he => exact sim_strOfPtr hA hw he (by omega) ht
        · exact Sim.fail
    · exact Sim.fail
  · exact Sim.fail

theorem max2_int (k k' : IntKind) (x y : Int) : Builtin.max2 (.int k x) (.int k' y) = pure (.int k (if true then (if y > x then y else x) else (if y < x then y else x))) := by simp [Builtin.max2]
theorem min2_int (k k' : IntKind) (x y : Int) : Builtin.min2 (.int k x) (.int k' y) = pure (.int k (if false then (if y > x then y else x) else (if y < x then y else x))) := by simp [Builtin.min2]

theorem sim_builtin (hA : APOk P A) (hw : WR P ρ h n B w0 w) {b : Builtin} {ts : Array TypeId} {ty : TypeId} {cs : Array Bool} {args : List Value} {args' : Array Value} (ha : VRs ρ args args'.toList) :
    Sim P ρ h n B w0 w (builtinX b A ts.toList args h n) (builtin b ts ty cs args') := by
  unfold builtinX
  split
  · exact sim_bAppend hA hw ha
  · exact sim_bCopy hA hw ha
  · exact sim_bLen hA hw ha
  · exact sim_bFold hw (f := Builtin.min2) (fun k k' x y => by rw [min2_int]) ha (s := Builtin.min_ ts ty args') (fun x xs hh => by simp only [Builtin.min_, hh])
  · exact sim_bFold hw (f := Builtin.max2) (fun k k' x y => by rw [max2_int]) ha (s := Builtin.max_ ts ty args') (fun x xs hh => by simp only [Builtin.max_, hh])
  · unfold bRecover
    split
    · intro r h' n' hr
      simp only [Res.ok.injEq] at hr
      obtain ⟨rfl, rfl, rfl⟩ := hr
      exact .inr ⟨.recover, w, ρ, rfl, Ext.refl _ _, Nat.le_refl _, hw, .recover⟩
    · exact Sim.fail
  · exact sim_sliceData hw (ts' := []) ha
  · exact sim_bString hA hw ha
  · exact Sim.fail
end
end Go.Am
end
section
set_option linter.unusedVariables false
namespace Go.Am
open Go Go.RowKit

/-! functions without a body -/
theorem next_empty : Extern.allNextRows.lookup "" = none := by kernel_rfl
theorem next1 : Extern.allNextRows.lookup "internal/bytealg.IndexByteString" = none := by kernel_rfl
theorem next2 : Extern.allNextRows.lookup "sync/atomic.LoadInt64" = none := by kernel_rfl
theorem next3 : Extern.allNextRows.lookup "sync/atomic.LoadUint32" = none := by kernel_rfl
theorem next4 : Extern.allNextRows.lookup "sync/atomic.StoreInt64" = none := by kernel_rfl
theorem next5 : Extern.allNextRows.lookup "sync/atomic.StoreUint32" = none := by kernel_rfl
theorem next6 : Extern.allNextRows.lookup "internal/abi.NoEscape" = none := by kernel_rfl
theorem gen1 : (Extern.allGenericRows.lookup "internal/bytealg.IndexByteString").isNone = true := by kernel_rfl
theorem gen2 : (Extern.allGenericRows.lookup "sync/atomic.LoadInt64").isNone = true := by kernel_rfl
theorem gen3 : (Extern.allGenericRows.lookup "sync/atomic.LoadUint32").isNone = true := by kernel_rfl
theorem gen4 : (Extern.allGenericRows.lookup "sync/atomic.StoreInt64").isNone = true := by kernel_rfl
theorem gen5 : (Extern.allGenericRows.lookup "sync/atomic.StoreUint32").isNone = true := by kernel_rfl
theorem gen6 : (Extern.allGenericRows.lookup "internal/abi.NoEscape").isNone = true := by kernel_rfl
theorem typ1 : (Extern.allTypedRows.lookup "internal/bytealg.IndexByteString").isNone = true := by kernel_rfl
theorem typ2 : (Extern.allTypedRows.lookup "sync/atomic.LoadInt64").isNone = true := by kernel_rfl
theorem typ3 : (Extern.allTypedRows.lookup "sync/atomic.LoadUint32").isNone = true := by kernel_rfl
theorem typ4 : (Extern.allTypedRows.lookup "sync/atomic.StoreInt64").isNone = true := by kernel_rfl
theorem typ5 : (Extern.allTypedRows.lookup "sync/atomic.StoreUint32").isNone = true := by kernel_rfl
theorem typ6 : (Extern.allTypedRows.lookup "internal/abi.NoEscape").isNone = true := by kernel_rfl
theorem row1 : Extern.allRows.lookup "internal/bytealg.IndexByteString" = some Extern.BytealgIndexByte.indexByte := by kernel_rfl
theorem row2 : Extern.allRows.lookup "sync/atomic.LoadInt64" = some (Extern.Atomic.loadT (.int .i64)) := by kernel_rfl
theorem row3 : Extern.allRows.lookup "sync/atomic.LoadUint32" = some (Extern.Atomic.loadT (.int .u32)) := by kernel_rfl
theorem row4 : Extern.allRows.lookup "sync/atomic.StoreInt64" = some Extern.Atomic.storeT := by kernel_rfl
theorem row5 : Extern.allRows.lookup "sync/atomic.StoreUint32" = some Extern.Atomic.storeT := by kernel_rfl
theorem row6 : Extern.allRows.lookup "internal/abi.NoEscape" = some Extern.AbiNoEscape.same := by kernel_rfl

theorem ext_find {fn : Func} {e : Array Value → Sem Value} (h1 : Extern.allNextRows.lookup fn.name = none) (h2 : (Extern.allGenericRows.lookup fn.name).isNone = true) (h3 : (Extern.allTypedRows.lookup fn.name).isNone = true) (h4 : Extern.allRows.lookup fn.name = some e) (ho : fn.origin = "" ∨ fn.origin = fn.name) :
    Extern.findNext fn = none ∧ Extern.find fn = some e := by
  constructor
  · have : Extern.allNextRows.lookup fn.origin = none := by rcases ho with h | h <;> rw [h]; exact next_empty; exact h1
    simp only [Extern.findNext, h1, this]
    rfl
  · rw [Option.isNone_iff_eq_none] at h2 h3
    simp only [Extern.find, h2, h3, h4]
    rfl

section
variable {P : Program} {A : AP} {ρ : Rho} {h h' : T Ob} {n B : Nat} {w0 w : World}

theorem indexOf_rel : ∀ (l : List UInt8) (c i : Nat) (hc : c < 256), indexOfByte c l i = ((List.range l.length).find? fun j => l[j]! == c.toUInt8).map (· + i)
  | [], c, i, hc => rfl
  | b :: l, c, i, hc => by
    simp only [indexOfByte, List.length_cons, List.range_succ_eq_map, List.find?_cons]
    have hb : (b == c.toUInt8) = Nat.beq b.toNat c := by
      rw [natBeq, Bool.eq_iff_iff, beq_iff_eq, decide_eq_true_iff]
      constructor
      · rintro rfl; simp [Nat.toUInt8, Nat.mod_eq_of_lt hc]
      · rintro rfl; simp [Nat.toUInt8]
    have h0 : ((b :: l)[0]! == c.toUInt8) = Nat.beq b.toNat c := by rw [← hb]; rfl
    rw [h0]
    cases Nat.beq b.toNat c with
    | true => simp
    | false =>
      simp only [cond_false]
      rw [indexOf_rel l c (i + 1) hc]
      rw [List.find?_map]
      simp only [Function.comp_def, Option.map_map]
      congr 1
      · funext j; omega

theorem sim_xIndexByte (hw : WR P ρ h n B w0 w) {args : List Value} {args' : Array Value} (ha : VRs ρ args args'.toList) :
    Sim P ρ h n B w0 w (xIndexByte args h n) (asNext (Extern.BytealgIndexByte.indexByte args')) := by
  unfold xIndexByte
  split
  · rename_i s c
    obtain ⟨y1, y2, rfl, h1, h2⟩ := two_args ha
    cases h1; cases h2
    rw [natBlt, Bool.cond_decide]
    split
    · rename_i hc
      have hrun := run_indexByte_string (P := P) s (Int.ofNat c) w
      have hf : firstIdx s (Int.ofNat c).toNat.toUInt8 = match indexOfByte c s.data.toList 0 with | some i => (Int.ofNat i) | none => -1 := by
        unfold firstIdx
        rw [indexOf_rel _ _ _ hc]
        have e1 : s.size = s.data.toList.length := (Array.length_toList (xs := s.data)).symm
        have e2 : (fun (i : Nat) => s[i]! == (Int.ofNat c).toNat.toUInt8) = (fun (i : Nat) => s.data.toList[i]! == c.toUInt8) := by
          funext i
          have e3 : s[i]! = s.data[i]! := by
            by_cases hi : i < s.size
            · have hi' : i < s.data.size := hi
              rw [getElem!_pos s i hi, getElem!_pos s.data i hi']; rfl
            · have hi' : ¬ i < s.data.size := hi
              rw [getElem!_neg s i hi, getElem!_neg s.data i hi']
          rw [e3]
          have e4 : s.data[i]! = s.data.toList[i]! := by
            by_cases hi : i < s.data.size
            · rw [getElem!_pos s.data i hi, getElem!_pos s.data.toList i (by simpa using hi)]; simp
            · rw [getElem!_neg s.data i hi, getElem!_neg s.data.toList i (by simpa using hi)]
          rw [e4]
          rfl
        rw [e1, e2]
        cases (List.find? (fun i => s.data.toList[i]! == c.toUInt8) (List.range s.data.toList.length)) <;> rfl
      split
      · rename_i i hi
        rw [hi] at hf
        rw [natK_eq]
        exact Sim.val hw (v' := .int .i64 (.ofNat i)) (by rw [hrun, hf]) (.int _ _)
      · rename_i hi
        rw [hi] at hf
        exact Sim.val hw (v' := .int .i64 (.negSucc 0)) (by rw [hrun, hf]; rfl) (.int _ _)
    · exact Sim.fail
  · exact Sim.fail

theorem atomic_load {a : Addr} {v : Value} (hc : w.cell? a = some v) : (load a .atomic).run P w = .ok v w := by simp [hc]
theorem sim_xAtLoad (hw : WR P ρ h n B w0 w) {kd : IntKind} {args : List Value} {args' : Array Value} (ha : VRs ρ args args'.toList) :
    Sim P ρ h n B w0 w (xAtLoad kd args h n) (asNext (Extern.Atomic.loadT (.int kd) args')) := by
  unfold xAtLoad
  split
  · rename_i b o
    obtain ⟨y, rfl, h1⟩ := one_arg ha
    split
    · rename_i c el lo hi hb
      split
      · rename_i kd' m hm
        rw [lnth_eq] at hm
        rw [kindEq_eq, Bool.cond_decide]
        split
        · rename_i hk
          subst hk
          cases h1 with
          | @ptr _ _ e he =>
            obtain ⟨cr, flo, fhi, q1, q2, q3, q4, q5, q6, q7⟩ := hw.cells hb he
            obtain ⟨y, hy, hxy⟩ := q5 o _ hm
            cases hxy
            have hc : w.cell? ⟨e.r, o, none⟩ = some (.int kd m) := by rw [cell_of q1, hy]
            refine Sim.val hw (v' := .int kd m) ?_ (.int _ _)
            show Sem.run P (asAddr (.pointer (some ⟨e.r, o, none⟩)) >>= fun a => Extern.Atomic.read (.int kd) a) w = _
            rw [Sem.run_bind]
            show Sem.run P (load ⟨e.r, o, none⟩ .atomic >>= _) w = _
            rw [Sem.run_bind, atomic_load hc, Result.andThen_ok]
            show Sem.run P (if kd = kd then pure (Value.int kd m) else _ : Sem Value) w = _
            rw [if_pos rfl]; rfl
        · exact Sim.fail
      · exact Sim.fail
    · exact Sim.fail
  · exact Sim.fail

theorem sim_xAtStore (hw : WR P ρ h n B w0 w) {args : List Value} {args' : Array Value} (ha : VRs ρ args args'.toList) :
    Sim P ρ h n B w0 w (xAtStore args h n) (asNext (Extern.Atomic.storeT args')) := by
  unfold xAtStore
  split
  · rename_i b o kd m
    obtain ⟨y1, y2, rfl, h1, h2⟩ := two_args ha
    cases h2
    split
    · rename_i c el lo hi hb
      cases h1 with
      | @ptr _ _ e he =>
        rw [putK_map]
        split
        · rename_i h' hp
          obtain ⟨w', p1, p2⟩ := sim_put (P := P) hw hb he (VRs.cons (.int kd m) VRs.nil) (Nat.le_refl _) hp
          have hst : (store ⟨e.r, o, none⟩ (.int kd m)).run P w = .ok () w' := by
            have : (storeCells ⟨e.r, o, none⟩ [.int kd m]).run P w = ((store ((⟨e.r, o, none⟩ : Addr).add 0) (.int kd m)).run P w).andThen fun _ w' => .ok () w' := by
              simp only [storeCells, Sem.run_bind]; rfl
            rw [this, addr_add, Nat.add_zero] at p1
            cases hq : (store ⟨e.r, o, none⟩ (.int kd m)).run P w with
            | ok a w2 => rw [hq] at p1; exact p1
            | halt a w2 => rw [hq] at p1; simp at p1
          have hst2 : (store ⟨e.r, o, none⟩ (.int kd m) .atomic).run P w = .ok () w' := by
            rw [← hst, run_store P w _ _ _ rfl, run_store P w _ _ _ rfl]
            obtain ⟨cr, flo, fhi, q1, q2, q3, q4, q5, q6, q7⟩ := hw.cells hb he
            have : ∃ v, w.cell? ⟨e.r, o, none⟩ = some v := by
              rw [cell_of q1]
              have hlt : o < cr.size := by
                simp only [putK, loverK_eq, List.length_singleton] at hp
                cases hz : (and (oneCs [.int kd m]) (or (and (Nat.ble hi o) (not (Nat.beq hi LOOSE))) (Nat.ble (Nat.add o 1) lo))) with
                | false => rw [hz] at hp; simp at hp
                | true =>
                  rw [hz, cond_true] at hp
                  split at hp
                  · omega
                  · simp at hp
              exact ⟨cr[o], by simp [hlt]⟩
            obtain ⟨v, hv⟩ := this
            rw [hv]
          intro r h2 n2 hr
          simp only [Res.ok.injEq] at hr
          obtain ⟨rfl, rfl, rfl⟩ := hr
          refine .inr ⟨.value (.tuple #[]), w', ρ, ?_, Ext.refl _ _, Nat.le_refl _, p2, .value (VRs.toTuple VRs.nil)⟩
          have : (Extern.Atomic.storeT #[.pointer (some ⟨e.r, o, none⟩), .int kd m]).run P w = .ok (.tuple #[]) w' := by
            show Sem.run P (store ⟨e.r, o, none⟩ (.int kd m) .atomic >>= _) w = _
            rw [Sem.run_bind, hst2]; rfl
          simp only [asNext, Sem.run_bind, this, Result.andThen_ok, Sem.run_pure]
        · exact Sim.fail
    · exact Sim.fail
  · exact Sim.fail

theorem sim_xSame (hw : WR P ρ h n B w0 w) {args : List Value} {args' : Array Value} (ha : VRs ρ args args'.toList) :
    Sim P ρ h n B w0 w (xSame args h n) (asNext (Extern.AbiNoEscape.same args')) := by
  unfold xSame
  split
  · obtain ⟨y, rfl, h1⟩ := one_arg ha
    exact Sim.val hw (v' := y) rfl h1
  · exact Sim.fail

/-- a call of a function -/
theorem sim_callFn1 (hA : APOk P A) (hw : WR P ρ h n B w0 w) {f : FuncId} {args : List Value} {args' : Array Value} (ha : VRs ρ args args'.toList) :
    Sim P ρ h n B w0 w (callFn1 A f args h n) (callFunc f args') := by
  unfold callFn1
  split
  · rename_i fn hf
    have hP := hA.funcs _ _ hf
    split
    · rename_i nm _ _ _ _ _ _ _ c _ _ _ _ _ _ _
      obtain ⟨_, hno⟩ := hA.code _ _ _ hf rfl
      intro r h' n' hr
      simp only [Res.ok.injEq] at hr
      obtain ⟨rfl, rfl, rfl⟩ := hr
      refine .inr ⟨.enter f args', w, ρ, ?_, Ext.refl _ _, Nat.le_refl _, hw, .enter ha⟩
      simp only at hno
      simp [callFunc, hP, hno]
    · rename_i nm _ _ _ _ _ _ _ _ _ _ _ _ _ _
      have key : ∀ {e : Array Value → Sem Value}, (nm == "runtime.NumGoroutine") = false → isExt nm = true → Extern.allNextRows.lookup nm = none → (Extern.allGenericRows.lookup nm).isNone = true → (Extern.allTypedRows.lookup nm).isNone = true → Extern.allRows.lookup nm = some e →
          (callFunc f args').run P w = (asNext (e args')).run P w := by
        intro e k0 k1 k2 k3 k4 k5
        have ho := hA.ext _ _ hf rfl k1
        obtain ⟨q1, q2⟩ := ext_find (fn := _) k2 k3 k4 k5 ho
        rw [run_callFunc_extern hP k0 rfl q1 q2]
        simp only [asNext, Sem.run_bind]
        rfl
      unfold externX
      split
      · rename_i hn; subst hn; exact Sim.congr (key (by decide) (by decide) next1 gen1 typ1 row1) (sim_xIndexByte hw ha)
      · split
        · rename_i hn; subst hn; exact Sim.congr (key (by decide) (by decide) next2 gen2 typ2 row2) (sim_xAtLoad hw ha)
        · split
          · rename_i hn; subst hn; exact Sim.congr (key (by decide) (by decide) next3 gen3 typ3 row3) (sim_xAtLoad hw ha)
          · split
            · rename_i hn; subst hn; exact Sim.congr (key (by decide) (by decide) next4 gen4 typ4 row4) (sim_xAtStore hw ha)
            · split
              · rename_i hn; subst hn; exact Sim.congr (key (by decide) (by decide) next5 gen5 typ5 row5) (sim_xAtStore hw ha)
              · split
                · rename_i hn; subst hn; exact Sim.congr (key (by decide) (by decide) next6 gen6 typ6 row6) (sim_xSame hw ha)
                · exact Sim.fail
  · exact Sim.fail

theorem argEq_rel {x y z : Value} (h1 : argsEq.argEq x y = true) (h2 : VR ρ x z) : z = y := by
  unfold argsEq.argEq at h1
  split at h1
  · split at h1
    · cases h2
      rw [Bool.and_eq_true, kindEq_eq, intEq_eq] at h1
      rw [of_decide_eq_true h1.1, of_decide_eq_true h1.2]
    · simp at h1
  · split at h1
    · rename_i s _ s'
      cases h2
      rw [bytesEq_eq] at h1
      have := of_decide_eq_true h1
      cases s; cases s'; simp only [Value.string.injEq, ByteArray.mk.injEq]; exact Array.toList_inj.1 this
    · simp at h1
  · simp at h1
theorem argsEq_rel : ∀ {xs ys zs : List Value}, argsEq xs ys = true → VRs ρ xs zs → zs = ys
  | [], [], zs, _, h => VRs.of_nil h
  | [], y :: ys, zs, h, _ => by simp [argsEq] at h
  | x :: xs, [], zs, h, _ => by simp [argsEq] at h
  | x :: xs, y :: ys, zs, h, hz => by
    obtain ⟨z, zs', rfl, h1, h2⟩ := VRs.of_cons hz
    simp only [argsEq] at h
    cases hc : argsEq.argEq x y with
    | false => rw [hc] at h; simp at h
    | true =>
      rw [hc, cond_true] at h
      rw [argEq_rel hc h1, argsEq_rel h h2]
theorem sumOf_rel {f : FuncId} {args : List Value} {args' : Array Value} (ha : VRs ρ args args'.toList) : ∀ {l : List (FuncId × List Value × Value)} {v : Value}, sumOf f args l = some v → (f, args'.toList, v) ∈ l
  | [], v, h => by simp [sumOf] at h
  | (g, as, u) :: l, v, h => by
    simp only [sumOf] at h
    cases hg : Nat.beq g f with
    | false => rw [hg, cond_false] at h; exact List.mem_cons_of_mem _ (sumOf_rel ha h)
    | true =>
      rw [hg, cond_true] at h
      cases he : argsEq args as with
      | false => rw [he, cond_false] at h; exact List.mem_cons_of_mem _ (sumOf_rel ha h)
      | true =>
        rw [he, cond_true, Option.some.injEq] at h
        subst h
        rw [argsEq_rel he ha, Nat.eq_of_beq_eq_true hg]
        exact List.mem_cons_self

theorem sim_callFn (hA : APOk P A) (hS : SumsOk P A) (hw : WR P ρ h n B w0 w) {f : FuncId} {args : List Value} {args' : Array Value} (ha : VRs ρ args args'.toList) :
    Sim P ρ h n B w0 w (callFn A f args h n) (callFunc f args') := by
  unfold callFn
  split
  · rename_i v hv
    obtain ⟨hk, fn, g1, g2, g3⟩ := hS _ _ _ (sumOf_rel ha hv)
    intro r h' n' hr
    simp only [Res.ok.injEq] at hr
    obtain ⟨rfl, rfl, rfl⟩ := hr
    refine .inr ⟨.enter f args', w, ρ, ?_, Ext.refl _ _, Nat.le_refl _, hw, .known hk⟩
    rw [Option.isSome_iff_exists] at g2
    obtain ⟨c, hc⟩ := g2
    simp [callFunc, g1, g3, hc]
  · exact sim_callFn1 hA hw ha
end
end Go.Am
end
