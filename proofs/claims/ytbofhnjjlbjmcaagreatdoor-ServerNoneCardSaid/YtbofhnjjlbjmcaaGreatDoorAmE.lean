/- The machine's regions and frames, part 1. -/
import Derived.Test.YtbofhnjjlbjmcaaGreatDoorAmB
import Derived.Calls
set_option linter.unusedVariables false
set_option linter.unusedSimpArgs false
section
set_option linter.unusedVariables false
namespace Go.Am
open Go Go.RowKit

/-! frames -/
inductive ItR (ρ : Rho) : It → Item → Prop
  | code {c : Code} : codeOk c = true → ItR ρ (.code c) (.code c)
  | inBlock (id : Nat) : ItR ρ (.inBlock id) (.inBlock id)
  | inLoop {c : Code} : codeOk c = true → ItR ρ (.inLoop c) (.inLoop c)
  | inRegion {ops : Array Oper} {k : Nat} : (∀ o ∈ ops.toList, operOk o = true) → ItR ρ (.inRegion ops (ops.toList.drop k)) (.inRegion ops ((List.range ops.size).drop k))
  | inRangeFunc {l : Nat} {e : Ent} : ρ l = some e → ItR ρ (.inRangeFunc l) (.inRangeFunc e.r)
  | endRangeFunc {l : Nat} {e : Ent} : ρ l = some e → ItR ρ (.endRangeFunc l) (.endRangeFunc e.r)
  | beginRound : ItR ρ .beginRound .beginRound
inductive ItRs (ρ : Rho) : List It → List Item → Prop
  | nil : ItRs ρ [] []
  | cons {x : It} {y : Item} {xs : List It} {ys : List Item} : ItR ρ x y → ItRs ρ xs ys → ItRs ρ (x :: xs) (y :: ys)
inductive DRs (ρ : Rho) : List Deferred → List Deferred → Prop
  | nil : DRs ρ [] []
  | cons {x y : Deferred} {xs ys : List Deferred} : DR ρ x y → DRs ρ xs ys → DRs ρ (x :: xs) (y :: ys)
inductive PRs' (ρ : Rho) : List PanicEntry → List PanicEntry → Prop
  | nil : PRs' ρ [] []
  | cons {v v' : Value} {r g : Bool} {xs ys : List PanicEntry} : VR ρ v v' → PRs' ρ xs ys → PRs' ρ (⟨v, r, g⟩ :: xs) (⟨v', r, g⟩ :: ys)
inductive ModeR (ρ : Rho) : FrameMode → FrameMode → Prop
  | run : ModeR ρ .run .run
  | returning : ModeR ρ .returning .returning
  | panicking {xs ys : List PanicEntry} : PRs' ρ xs ys → ModeR ρ (.panicking xs) (.panicking ys)
inductive RoR (ρ : Rho) : Option Nat → Option Nat → Prop
  | no : RoR ρ none none
  | yes {l : Nat} {e : Ent} : ρ l = some e → RoR ρ (some l) (some e.r)

/-- temporaries, but for some -/
def TRx (ρ : Rho) (D : List Tmp) (tm : T Value) (nt : Nat) (tr : Array Value) : Prop := tr.size = nt ∧ ∀ t, t ∉ D → VR ρ (ev tm (.tmp t)) (tr.getD t Go.undef)
def dstOf (ops : Array Oper) (i : Nat) : Option Tmp := (ops[i]?).bind (·.dst)
def dsts (ops : Array Oper) (X : List Nat) : List Tmp := X.filterMap (dstOf ops)
/-- the block that a pending operation has made ahead -/
noncomputable def blkOf (A : AP) (ops : Array Oper) (tm : T Value) (i : Nat) : Option Nat :=
  match ops[i]? with
  | some o => match floats A o.op with
    | some .alloc => match o.dst with
      | some d => match tm.get d with
        | some (.pointer (some ⟨b, 0, none⟩)) => some b
        | some (.slice (some ⟨b, 0, none⟩) _ _) => some b
        | _ => none
      | none => none
    | _ => none
  | none => none
noncomputable def blks (A : AP) (ops : Array Oper) (tm : T Value) (X : List Nat) : List Nat := X.filterMap (blkOf A ops tm)

/-- in a region that draws: X has been done by AM alone; L is what the model has to do -/
structure DrawR (A : AP) (ops : Array Oper) (pend rest X L : List Nat) : Prop where
  ok : ∀ o ∈ ops.toList, operOk o = true
  sep : drawOk A ops.toList (List.range ops.size) = true
  mem : ∀ i, i ∈ L ↔ i ∈ X ∨ i ∈ rest
  nodup : L.Nodup
  xnodup : X.Nodup
  rnodup : rest.Nodup
  disj : ∀ i ∈ X, i ∉ rest
  sub : ∀ i ∈ X, i ∈ pend
  lt : ∀ i ∈ L, i < ops.size
  ord : ∀ L1 i L2, L = L1 ++ i :: L2 → ∀ j ∈ predsOf ops.toList i, j ∉ i :: L2
  arest : ∀ l1 i l2, rest = l1 ++ i :: l2 → ∀ j ∈ predsOf ops.toList i, j ∉ i :: l2
  xpred : ∀ i ∈ X, ∀ j ∈ predsOf ops.toList i, j ∉ rest
  fl : ∀ i ∈ X, isFloat A ops.toList i = true

inductive BodyR (A : AP) (ρ : Rho) (tm : T Value) (nt : Nat) (tr : Array Value) : List It → List Item → List Nat → Prop
  | plain {xs : List It} {ys : List Item} : ItRs ρ xs ys → TRx ρ [] tm nt tr → BodyR A ρ tm nt tr xs ys []
  | draw {ops : Array Oper} {pend rest X L : List Nat} {k : List It} {k' : List Item} : ItRs ρ k k' → DrawR A ops pend rest X L → TRx ρ (dsts ops X) tm nt tr → (∀ d ∈ dsts ops X, d < nt) →
      BodyR A ρ tm nt tr (.inDraw ops pend rest :: k) (.inRegion ops L :: k') (blks A ops tm X)

structure FrR (A : AP) (ρ : Rho) (fr : Fr) (rf : Frame) (G : List Nat) : Prop where
  fn : rf.fn = fr.fn
  kind : rf.kind = fr.kind
  body : BodyR A ρ fr.tmps fr.nt rf.tmps fr.todo rf.todo G
  ds : DRs ρ fr.defers rf.defers
  mode : ModeR ρ fr.mode rf.mode
  ro : RoR ρ fr.roundOf rf.roundOf

/-- a frame that waits for a call stands at the same operation in both -/
inductive Hd : List It → List Item → Prop
  | draw {ops : Array Oper} {pend : List Nat} {i : Nat} {rest L : List Nat} {k : List It} {k' : List Item} : Hd (.inDraw ops pend (i :: rest) :: k) (.inRegion ops (i :: L) :: k')
  | plain {xs : List It} {ys : List Item} : (∀ ops pend l k, xs ≠ .inDraw ops pend l :: k) → Hd xs ys

inductive FrRs (A : AP) (ρ : Rho) : List Fr → List Frame → List Nat → Prop
  | nil : FrRs A ρ [] [] []
  | cons {fr : Fr} {rf : Frame} {cs : List Fr} {rcs : List Frame} {g G : List Nat} : FrR A ρ fr rf g → Hd fr.todo rf.todo → FrRs A ρ cs rcs G → FrRs A ρ (fr :: cs) (rf :: rcs) (g ++ G)

/-- blocks of AM's own -/
def GOk (ρ : Rho) (n : Nat) (G : List Nat) : Prop := G.Nodup ∧ ∀ b ∈ G, ρ b = none ∧ b < n

theorem ItR.ext {ρ ρ' : Rho} (he : ∀ b e, ρ b = some e → ρ' b = some e) {x : It} {y : Item} (h : ItR ρ x y) : ItR ρ' x y := by
  cases h with
  | code h => exact .code h
  | inBlock id => exact .inBlock id
  | inLoop h => exact .inLoop h
  | inRegion h => exact .inRegion h
  | inRangeFunc h => exact .inRangeFunc (he _ _ h)
  | endRangeFunc h => exact .endRangeFunc (he _ _ h)
  | beginRound => exact .beginRound
theorem ItRs.ext {ρ ρ' : Rho} (he : ∀ b e, ρ b = some e → ρ' b = some e) {xs : List It} {ys : List Item} (h : ItRs ρ xs ys) : ItRs ρ' xs ys := by
  induction h with
  | nil => exact .nil
  | cons h _ ih => exact .cons (h.ext he) ih
theorem DRs.ext {ρ ρ' : Rho} (he : ∀ b e, ρ b = some e → ρ' b = some e) {xs ys : List Deferred} (h : DRs ρ xs ys) : DRs ρ' xs ys := by
  induction h with
  | nil => exact .nil
  | cons h _ ih => exact .cons (h.ext he) ih
theorem PRs'.ext {ρ ρ' : Rho} (he : ∀ b e, ρ b = some e → ρ' b = some e) {xs ys : List PanicEntry} (h : PRs' ρ xs ys) : PRs' ρ' xs ys := by
  induction h with
  | nil => exact .nil
  | cons h _ ih => exact .cons (h.ext he) ih
theorem PRs'.append {ρ : Rho} {xs ys xs' ys' : List PanicEntry} (h : PRs' ρ xs ys) (h' : PRs' ρ xs' ys') : PRs' ρ (xs ++ xs') (ys ++ ys') := by
  induction h with
  | nil => exact h'
  | cons h _ ih => exact .cons h ih
theorem ModeR.ext {ρ ρ' : Rho} (he : ∀ b e, ρ b = some e → ρ' b = some e) {x y : FrameMode} (h : ModeR ρ x y) : ModeR ρ' x y := by
  cases h with
  | run => exact .run
  | returning => exact .returning
  | panicking h => exact .panicking (h.ext he)
theorem RoR.ext {ρ ρ' : Rho} (he : ∀ b e, ρ b = some e → ρ' b = some e) {x y : Option Nat} (h : RoR ρ x y) : RoR ρ' x y := by
  cases h with
  | no => exact .no
  | yes h => exact .yes (he _ _ h)
theorem TRx.ext {ρ ρ' : Rho} (he : ∀ b e, ρ b = some e → ρ' b = some e) {D : List Tmp} {tm : T Value} {nt : Nat} {tr : Array Value} (h : TRx ρ D tm nt tr) : TRx ρ' D tm nt tr :=
  ⟨h.1, fun t ht => (h.2 t ht).ext he⟩
theorem BodyR.ext {A : AP} {ρ ρ' : Rho} (he : ∀ b e, ρ b = some e → ρ' b = some e) {tm : T Value} {nt : Nat} {tr : Array Value} {xs : List It} {ys : List Item} {G : List Nat} (h : BodyR A ρ tm nt tr xs ys G) : BodyR A ρ' tm nt tr xs ys G := by
  cases h with
  | plain h1 h2 => exact .plain (h1.ext he) (h2.ext he)
  | draw h1 h2 h3 h4 => exact .draw (h1.ext he) h2 (h3.ext he) h4
theorem FrR.ext {A : AP} {ρ ρ' : Rho} (he : ∀ b e, ρ b = some e → ρ' b = some e) {fr : Fr} {rf : Frame} {G : List Nat} (h : FrR A ρ fr rf G) : FrR A ρ' fr rf G :=
  ⟨h.fn, h.kind, h.body.ext he, h.ds.ext he, h.mode.ext he, h.ro.ext he⟩
theorem FrRs.ext {A : AP} {ρ ρ' : Rho} (he : ∀ b e, ρ b = some e → ρ' b = some e) {cs : List Fr} {rcs : List Frame} {G : List Nat} (h : FrRs A ρ cs rcs G) : FrRs A ρ' cs rcs G := by
  induction h with
  | nil => exact .nil
  | cons h hd _ ih => exact .cons (h.ext he) hd ih
theorem GOk.ext {ρ ρ' : Rho} {n n' : Nat} (he : Ext ρ ρ' n) (hn : n ≤ n') {G : List Nat} (h : GOk ρ n G) : GOk ρ' n' G :=
  ⟨h.1, fun b hb => let ⟨p, q⟩ := h.2 b hb; ⟨by rw [he.2 b q, p], by omega⟩⟩

/-- the program's variables -/
def Globs (ρ : Rho) : Prop := ∀ g, g < GN → ρ g = some ⟨g, 0, 0⟩
theorem Globs.ext {ρ ρ' : Rho} (he : ∀ b e, ρ b = some e → ρ' b = some e) (h : Globs ρ) : Globs ρ' := fun g hg => he _ _ (h g hg)

theorem ev_rel {ρ : Rho} {D : List Tmp} {tm : T Value} {nt : Nat} {tr : Array Value} (ht : TRx ρ D tm nt tr) (hgl : Globs ρ) {x : Operand} (hx : operandOk x = true) (hD : ∀ t, x = .tmp t → t ∉ D) {rv : Operand → Value}
    (h1 : ∀ t, rv (.tmp t) = tr.getD t Go.undef) (h2 : ∀ v, rv (.const v) = v) (h3 : ∀ g, rv (.global g) = .pointer (some ⟨g, 0, none⟩)) (h4 : ∀ f, rv (.func f) = .func (.func f) #[] #[]) : VR ρ (ev tm x) (rv x) := by
  cases x with
  | tmp t => rw [h1]; exact ht.2 t (hD t rfl)
  | const v => rw [h2]; exact VR.plainV hx
  | global g =>
    rw [h3]
    have hg : g < GN := by simpa [operandOk, natBlt] using hx
    exact .ptr (hgl g hg)
  | func f => rw [h4]; exact .func f rfl (fun i x y hx => by simp at hx) rfl (fun i x y hx => by simp at hx)

/-- the frame at the bottom -/
def bot (rf : Frame) : List Frame → Frame
  | [] => rf
  | c :: cs => bot c cs

/-- the machines -/
structure MR (P : Program) (A : AP) (B : Nat) (w0 : World) (f0 : FuncId) (m : Mach) (rf : Frame) (rcs : List Frame) (w : World) : Prop where
  ex : ∃ ρ g G, WR P ρ m.heap m.next B w0 w ∧ FrR A ρ m.fr rf g ∧ FrRs A ρ m.cs rcs G ∧ GOk ρ m.next (g ++ G) ∧ Globs ρ
  fn : (bot rf rcs).fn = f0
end Go.Am
end
section
set_option linter.unusedVariables false
namespace Go.Am
open Go Go.RowKit

theorem natIn_iff (n : Nat) : ∀ l, natIn n l = true ↔ n ∈ l
  | [] => by simp [natIn]
  | m :: ms => by
    simp only [natIn, natBeq, Bool.cond_decide, List.mem_cons]
    split
    · rename_i he; simp [he]
    · rename_i he; rw [natIn_iff n ms]; simp [he]
theorem allIn_iff (l : List Nat) : ∀ xs, allIn xs l = true ↔ ∀ x ∈ xs, x ∈ l
  | [] => by simp [allIn]
  | x :: xs => by
    simp only [allIn]
    cases hx : natIn x l with
    | true => simp only [cond_true, allIn_iff l xs]; simp [(natIn_iff x l).1 hx]
    | false =>
      simp only [cond_false]
      constructor
      · intro h; simp at h
      · intro h
        have := (natIn_iff x l).2 (h x (by simp))
        rw [hx] at this; simp at this
theorem upTo_iff {p : Nat → Bool} : ∀ {l : List Nat}, upTo p l = true ↔ ∀ x ∈ l, p x = true
  | [] => by simp [upTo]
  | x :: xs => by
    simp only [upTo]
    cases hx : p x with
    | true => simp [cond_true, upTo_iff (l := xs), hx]
    | false => simp [hx]
theorem firstOf_some {p : Nat → Bool} : ∀ {l : List Nat} {i : Nat}, firstOf p l = some i → i ∈ l ∧ p i = true
  | [], i, h => by simp [firstOf] at h
  | x :: xs, i, h => by
    simp only [firstOf] at h
    cases hx : p x with
    | true => simp only [hx, cond_true, Option.some.injEq] at h; subst h; exact ⟨by simp, hx⟩
    | false => simp only [hx, cond_false] at h; obtain ⟨a, b⟩ := firstOf_some h; exact ⟨by simp [a], b⟩
theorem without_mem {i : Nat} : ∀ {l : List Nat}, l.Nodup → ∀ j, j ∈ without i l ↔ j ∈ l ∧ j ≠ i
  | [], _, j => by simp [without]
  | x :: xs, h, j => by
    simp only [without, natBeq, Bool.cond_decide]
    rw [List.nodup_cons] at h
    split
    · rename_i he
      subst he
      constructor
      · intro hj; exact ⟨by simp [hj], by rintro rfl; exact h.1 hj⟩
      · rintro ⟨hj, hne⟩; exact (List.mem_cons.1 hj).resolve_left hne
    · rename_i he
      rw [List.mem_cons, without_mem h.2 j, List.mem_cons]
      constructor
      · rintro (rfl | ⟨hj, hne⟩)
        · exact ⟨.inl rfl, fun hh => he hh.symm⟩
        · exact ⟨.inr hj, hne⟩
      · rintro ⟨rfl | hj, hne⟩
        · exact .inl rfl
        · exact .inr ⟨hj, hne⟩
theorem without_nodup {i : Nat} : ∀ {l : List Nat}, l.Nodup → (without i l).Nodup
  | [], _ => by simp [without]
  | x :: xs, h => by
    have h' := List.nodup_cons.1 h
    simp only [without, natBeq, Bool.cond_decide]
    split
    · exact h'.2
    · rw [List.nodup_cons]
      exact ⟨fun hm => h'.1 ((without_mem h'.2 _).1 hm).1, without_nodup h'.2⟩

/-- an order of all that the edges allow -/
structure Topo (m : Region.Mode) (ops : List Oper) (done left l : List Nat) : Prop where
  mem : ∀ i, i ∈ l ↔ i ∈ left
  nodup : l.Nodup
  ord : ∀ l1 i l2, l = l1 ++ i :: l2 → ∃ o, ops[i]? = some o ∧ ∀ j ∈ predsOfM m o, j ∈ done ∨ j ∈ l1

theorem Topo.cons {m : Region.Mode} {ops : List Oper} {done left : List Nat} (hl : left.Nodup) {i : Nat} (hi : i ∈ left) (hr : readyM m ops done i = true) {l : List Nat} (ht : Topo m ops (i :: done) (without i left) l) : Topo m ops done left (i :: l) := by
  refine ⟨fun j => ?_, ?_, ?_⟩
  · rw [List.mem_cons, ht.mem, without_mem hl]
    constructor
    · rintro (rfl | ⟨h, _⟩)
      · exact hi
      · exact h
    · intro hj
      by_cases he : j = i
      · exact .inl he
      · exact .inr ⟨hj, he⟩
  · rw [List.nodup_cons, ht.mem, without_mem hl]
    exact ⟨fun h => h.2 rfl, ht.nodup⟩
  · intro l1 j l2 he
    cases l1 with
    | nil =>
      simp only [List.nil_append, List.cons.injEq] at he
      obtain ⟨rfl, rfl⟩ := he
      unfold readyM at hr
      split at hr
      · rename_i o ho
        simp only [lnth_eq] at ho
        exact ⟨o, ho, fun j hj => .inl ((allIn_iff _ _).1 hr j hj)⟩
      · simp at hr
    | cons x l1 =>
      simp only [List.cons_append, List.cons.injEq] at he
      obtain ⟨rfl, he⟩ := he
      obtain ⟨o, ho, hp⟩ := ht.ord l1 j l2 he
      refine ⟨o, ho, fun q hq => ?_⟩
      rcases hp q hq with h | h
      · rcases List.mem_cons.1 h with rfl | h
        · exact .inr (by simp)
        · exact .inl h
      · exact .inr (by simp [h])

theorem greedy_topo {A : AP} {ops : List Oper} : ∀ {f : Nat} {done left l : List Nat}, left.Nodup → greedy A ops f done left = some l → Topo .any ops done left l
  | 0, done, left, l, hl, hg => by
    simp only [greedy] at hg
    split at hg
    · simp only [Option.some.injEq] at hg; subst hg; exact ⟨by simp, by simp, fun l1 i l2 he => by simp at he⟩
    · simp at hg
  | f + 1, done, left, l, hl, hg => by
    simp only [greedy] at hg
    split at hg
    · simp only [Option.some.injEq] at hg; subst hg; exact ⟨by simp, by simp, fun l1 i l2 he => by simp at he⟩
    · split at hg
      · rename_i i hf
        obtain ⟨hm, hp⟩ := firstOf_some hf
        split at hg
        · rename_i l' hl'
          simp only [Option.some.injEq] at hg
          subst hg
          refine Topo.cons hl hm ?_ (greedy_topo (without_nodup hl) hl')
          cases hff : isFloat A ops i with
          | true => simpa [hff] using hp
          | false => simp [hff] at hp
        · simp at hg
      · split at hg
        · rename_i i hf
          obtain ⟨hm, hp⟩ := firstOf_some hf
          split at hg
          · rename_i l' hl'
            simp only [Option.some.injEq] at hg
            subst hg
            exact Topo.cons hl hm hp (greedy_topo (without_nodup hl) hl')
          · simp at hg
        · simp at hg
theorem topo_topo {m : Region.Mode} {ops : List Oper} : ∀ {f : Nat} {done left : List Nat}, left.Nodup → topo m ops f done left = true → ∃ l, Topo m ops done left l
  | 0, done, left, hl, hg => by
    simp only [topo] at hg
    split at hg
    · exact ⟨[], by simp, by simp, fun l1 i l2 he => by simp at he⟩
    · simp at hg
  | f + 1, done, left, hl, hg => by
    simp only [topo] at hg
    split at hg
    · exact ⟨[], by simp, by simp, fun l1 i l2 he => by simp at he⟩
    · split at hg
      · rename_i i hf
        obtain ⟨hm, hp⟩ := firstOf_some hf
        obtain ⟨l, hl'⟩ := topo_topo (without_nodup hl) hg
        exact ⟨i :: l, Topo.cons hl hm hp hl'⟩
      · simp at hg

theorem binds_any {m : Region.Mode} {e : Edge} (h : Region.binds .any e = true) : Region.binds m e = true := by
  obtain ⟨on, g⟩ := e
  cases g <;> simp_all [Region.binds]
theorem preds_any {m : Region.Mode} {o : Oper} {j : Nat} (h : j ∈ predsOfM .any o) : j ∈ predsOfM m o := by
  simp only [predsOfM, List.mem_map, List.mem_filter] at h ⊢
  obtain ⟨e, ⟨h1, h2⟩, h3⟩ := h
  exact ⟨e, ⟨h1, binds_any h2⟩, h3⟩

theorem nodup_sub : ∀ {l1 l2 : List Nat}, l1.Nodup → (∀ x ∈ l1, x ∈ l2) → l1.length ≤ l2.length
  | [], l2, _, _ => by simp
  | x :: xs, l2, hn, hs => by
    rw [List.nodup_cons] at hn
    have hx : x ∈ l2 := hs x (by simp)
    have := nodup_sub (l2 := l2.erase x) hn.2 (fun y hy => by
      have hne : y ≠ x := by rintro rfl; exact hn.1 hy
      exact (List.mem_erase_of_ne hne).2 (hs y (by simp [hy])))
    rw [List.length_erase_of_mem hx] at this
    have hpos : 0 < l2.length := List.length_pos_of_mem hx
    simp only [List.length_cons]; omega
theorem nodup_rev {l : List Nat} (h : l.Nodup) : l.reverse.Nodup := by
  unfold List.Nodup; rw [List.pairwise_reverse]; exact h.imp fun h => Ne.symm h
theorem first_not {acc : List Nat} : ∀ {l : List Nat}, (∃ x ∈ l, x ∉ acc) → ∃ l1 i l2, l = l1 ++ i :: l2 ∧ (∀ x ∈ l1, x ∈ acc) ∧ i ∉ acc
  | [], h => by obtain ⟨x, hx, _⟩ := h; simp at hx
  | y :: ys, h => by
    by_cases hy : y ∈ acc
    · obtain ⟨x, hx, hn⟩ := h
      obtain ⟨l1, i, l2, h1, h2, h3⟩ := first_not (l := ys) ⟨x, (List.mem_cons.1 hx).resolve_left (by rintro rfl; exact hn hy), hn⟩
      refine ⟨y :: l1, i, l2, by simp [h1], fun x hx => ?_, h3⟩
      rcases List.mem_cons.1 hx with rfl | hx
      · exact hy
      · exact h2 x hx
    · exact ⟨[], y, ys, rfl, by simp, hy⟩

/-- a list of the model's is an order of all -/
theorem linearise_topo {m : Region.Mode} {ops : Array Oper} {l : List Nat} (hl : Topo m ops.toList [] (List.range ops.size) l) (t : Nat) : Topo m ops.toList [] (List.range ops.size) (Region.linearise m ops t) := by
  have key : ∀ (fuel t : Nat) (listed : Array Bool) (acc : List Nat), listed.size = ops.size → (∀ i, i < ops.size → (listed[i]? = some true ↔ i ∈ acc)) → (∀ i ∈ acc, i < ops.size) → acc.Nodup →
      (∀ l1 i l2, acc.reverse = l1 ++ i :: l2 → ∃ o, ops.toList[i]? = some o ∧ ∀ j ∈ predsOfM m o, j ∈ l1) → fuel + acc.length = ops.size →
      Topo m ops.toList [] (List.range ops.size) (Region.linearise.go m ops fuel t listed acc) := by
    intro fuel
    induction fuel with
    | zero =>
      intro t listed acc hs hin hlt hnd hord hfu
      simp only [Region.linearise.go]
      refine ⟨fun i => ?_, nodup_rev hnd, fun l1 i l2 he => ?_⟩
      · rw [List.mem_reverse, List.mem_range]
        constructor
        · exact hlt i
        · intro hi
          by_cases hm : i ∈ acc
          · exact hm
          · exfalso
            have := nodup_sub (l1 := i :: acc) (l2 := List.range ops.size) (by rw [List.nodup_cons]; exact ⟨hm, hnd⟩) (fun x hx => by
              rw [List.mem_range]
              rcases List.mem_cons.1 hx with rfl | hx
              · exact hi
              · exact hlt x hx)
            simp at this; omega
      · obtain ⟨o, ho, hp⟩ := hord l1 i l2 he
        exact ⟨o, ho, fun j hj => .inr (hp j hj)⟩
    | succ fuel ih =>
      intro t listed acc hs hin hlt hnd hord hfu
      simp only [Region.linearise.go]
      generalize hrs : ((List.range ops.size).filter fun i =>
        !listed.getD i true && ((ops[i]?).map (·.after.all fun e => !Region.binds m e || listed.getD e.on false)).getD false) = rs
      have hrm : ∀ i, i ∈ rs ↔ i < ops.size ∧ i ∉ acc ∧ ∃ o, ops.toList[i]? = some o ∧ ∀ j ∈ predsOfM m o, j ∈ acc := by
        intro i
        rw [← hrs, List.mem_filter, List.mem_range]
        by_cases hi : i < ops.size
        · have hli : i < listed.size := by omega
          have h1 : (listed.getD i true = false) ↔ i ∉ acc := by
            rw [← hin i hi]
            simp [Array.getD, hli]
          have ho : ops[i]? = some ops[i] := by simp [hi]
          have ho' : ops.toList[i]? = some ops[i] := by simp [hi]
          simp only [hi, true_and, ho, Option.map_some, Option.getD_some, Bool.and_eq_true, Bool.not_eq_true', h1, ho']
          refine and_congr_right fun _ => ?_
          constructor
          · intro ha
            refine ⟨_, rfl, fun j hj => ?_⟩
            simp only [predsOfM, List.mem_map, List.mem_filter] at hj
            obtain ⟨e, ⟨he1, he2⟩, rfl⟩ := hj
            rw [Array.all_eq_true'] at ha
            have := ha e (by simpa using he1)
            simp only [he2, Bool.not_true, Bool.false_or] at this
            by_cases hj : e.on < ops.size
            · rw [← hin _ hj]
              have hlj : e.on < listed.size := by omega
              simp only [Array.getD, hlj, dif_pos] at this
              simp [hlj]
              simpa using this
            · have hlj : ¬ e.on < listed.size := by omega
              simp [Array.getD, hlj] at this
          · rintro ⟨o, ho2, hp⟩
            simp only [Option.some.injEq] at ho2
            subst ho2
            rw [Array.all_eq_true']
            intro e he
            cases hb : Region.binds m e with
            | false => simp
            | true =>
              have hj := hp e.on (by simp only [predsOfM, List.mem_map, List.mem_filter]; exact ⟨e, ⟨by simpa using he, hb⟩, rfl⟩)
              have hlt' := hlt _ hj
              have hlj : e.on < listed.size := by omega
              have := (hin _ hlt').2 hj
              simp only [hlj, Array.getElem?_eq_getElem, Option.some.injEq] at this
              simp [Array.getD, hlj, this]
        · simp [hi]
      have hne : rs ≠ [] := by
        obtain ⟨l1, i, l2, h1, h2, h3⟩ := first_not (acc := acc) (l := l) (by
          refine Classical.byContradiction fun hno => ?_
          have hall : ∀ x ∈ List.range ops.size, x ∈ acc := fun x hx => by
            refine Classical.byContradiction fun hxa => hno ⟨x, (hl.mem x).2 hx, hxa⟩
          have := nodup_sub List.nodup_range hall
          simp at this; omega)
        obtain ⟨o, ho, hp⟩ := hl.ord l1 i l2 h1
        have : i ∈ rs := (hrm i).2 ⟨by have := (hl.mem i).1 (by rw [h1]; simp); simpa using this, h3, o, ho, fun j hj => h2 j ((hp j hj).resolve_left (by simp))⟩
        intro he; rw [he] at this; simp at this
      have hlen : 0 < rs.length := List.length_pos_iff.2 hne
      have hmod : t % rs.length < rs.length := Nat.mod_lt _ hlen
      have hget : rs[t % rs.length]? = some (rs[t % rs.length]'hmod) := by simp [hmod]
      rw [hget]
      simp only []
      generalize hi : rs[t % rs.length]'hmod = i
      have him : i ∈ rs := by rw [← hi]; exact List.getElem_mem _
      obtain ⟨hi1, hi2, o, ho, hp⟩ := (hrm i).1 him
      refine ih _ _ (i :: acc) (by simp [hs]) (fun j hj => ?_) (fun j hj => ?_) (by rw [List.nodup_cons]; exact ⟨hi2, hnd⟩) (fun l1 j l2 he => ?_) (by simp; omega)
      · by_cases hji : i = j
        · subst hji; simp [hs, hi1]
        · rw [Array.getElem?_setIfInBounds_ne hji, hin j hj]; simp [Ne.symm hji]
      · rcases List.mem_cons.1 hj with rfl | hj
        · exact hi1
        · exact hlt j hj
      · rw [List.reverse_cons] at he
        rcases List.append_eq_append_iff.1 he with ⟨as, h1, h2⟩ | ⟨bs, h1, h2⟩
        · cases as with
          | nil =>
            simp only [List.nil_append, List.cons.injEq] at h2
            obtain ⟨rfl, _⟩ := h2
            refine ⟨o, ho, fun q hq => ?_⟩
            have := hp q hq
            simp only [List.append_nil] at h1
            rw [h1]; simpa using this
          | cons a as =>
            simp only [List.cons_append, List.cons.injEq] at h2
            have := congrArg List.length h2.2
            simp at this
        · cases bs with
          | nil =>
            simp only [List.nil_append, List.cons.injEq] at h2
            obtain ⟨rfl, _⟩ := h2
            refine ⟨o, ho, fun q hq => ?_⟩
            have := hp q hq
            simp only [List.append_nil] at h1
            rw [← h1]; simpa using this
          | cons b bs =>
            simp only [List.cons_append, List.cons.injEq] at h2
            obtain ⟨rfl, h2⟩ := h2
            exact hord l1 _ bs h1
  refine key ops.size t _ [] (by simp) (fun i hi => by simp [hi]) (by simp) (by simp) (fun l1 i l2 he => by simp at he) (by simp)
end Go.Am
end
section
set_option linter.unusedVariables false
namespace Go.Am
open Go Go.RowKit

/-- what a step of AM is in the model -/
def Goal (P : Program) (A : AP) (B : Nat) (w0 : World) (f0 : FuncId) (cs : List Frame) (rf : Frame) (rcs : List Frame) (w : World) (r : R) : Prop :=
  match r with
  | .next m' => ∃ rf' rcs' w', Steps P (lone rf (rcs ++ cs) w) (lone rf' (rcs' ++ cs) w') ∧ MR P A B w0 f0 m' rf' rcs' w'
  | .done v h n => ∃ v' rf' w' ρ, Steps P (lone rf (rcs ++ cs) w) (lone rf' cs w') ∧ rf'.fn = f0 ∧ rf'.leaving P w' (.returned v') ∧ VR ρ v v' ∧ WR P ρ h n B w0 w'
  | .fail _ => True

section
variable {P : Program} {A : AP} {ρ : Rho} {h : T Ob} {n B : Nat} {w0 w : World} {f0 : FuncId} {cs : List Frame}

theorem Goal.fail {rf : Frame} {rcs : List Frame} {why : Nat} : Goal P A B w0 f0 cs rf rcs w (.fail why) := trivial

theorem Goal.steps {rf rf' : Frame} {rcs rcs' : List Frame} {w' : World} {r : R} (hs : Steps P (lone rf (rcs ++ cs) w) (lone rf' (rcs' ++ cs) w')) (hg : Goal P A B w0 f0 cs rf' rcs' w' r) : Goal P A B w0 f0 cs rf rcs w r := by
  cases r with
  | next m => obtain ⟨a, b, c, h1, h2⟩ := hg; exact ⟨a, b, c, hs.trans h1, h2⟩
  | done v h n => obtain ⟨a, b, c, d, h1, h2⟩ := hg; exact ⟨a, b, c, d, hs.trans h1, h2⟩
  | fail => trivial

theorem bot_upd {rf rf' : Frame} (rcs : List Frame) (hf : rf'.fn = rf.fn) : (bot rf' rcs).fn = (bot rf rcs).fn := by
  cases rcs with
  | nil => exact hf
  | cons c cs => rfl
theorem bot_push (rf c : Frame) (cs : List Frame) : bot rf (c :: cs) = bot c cs := rfl

/-- what is known at a state -/
structure St (P : Program) (A : AP) (B : Nat) (w0 : World) (f0 : FuncId) (ρ : Rho) (fr : Fr) (fcs : List Fr) (h : T Ob) (n : Nat) (rf : Frame) (rcs : List Frame) (w : World) (g G : List Nat) : Prop where
  hw : WR P ρ h n B w0 w
  fr : FrR A ρ fr rf g
  cs : FrRs A ρ fcs rcs G
  g : GOk ρ n (g ++ G)
  gl : Globs ρ
  bot : (bot rf rcs).fn = f0
theorem St.mr {fr : Fr} {fcs : List Fr} {rf : Frame} {rcs : List Frame} {g G : List Nat} (s : St P A B w0 f0 ρ fr fcs h n rf rcs w g G) : MR P A B w0 f0 ⟨fr, fcs, h, n⟩ rf rcs w :=
  ⟨⟨ρ, g, G, s.hw, s.fr, s.cs, s.g, s.gl⟩, s.bot⟩

/-- one step that leaves the world as it is, in the frame on top -/
theorem St.top {fr : Fr} {fcs : List Fr} {rf : Frame} {rcs : List Frame} {g G : List Nat} (s : St P A B w0 f0 ρ fr fcs h n rf rcs w g G) {rf' : Frame} {fr' : Fr} {g' : List Nat}
    (hs : step P (lone rf (rcs ++ cs) w) = .next (lone rf' (rcs ++ cs) w)) (hf : FrR A ρ fr' rf' g') (hg : GOk ρ n (g' ++ G)) (hfn : rf'.fn = rf.fn) :
    Goal P A B w0 f0 cs rf rcs w (.next ⟨fr', fcs, h, n⟩) :=
  ⟨rf', rcs, w, Steps.one hs, ⟨ρ, g', G, s.hw, hf, s.cs, hg, s.gl⟩, by rw [bot_upd rcs hfn, s.bot]⟩

/-- .. that leaves all but the list of what is to do as it is, where no region draws -/
theorem St.to {fn : FuncId} {tm : T Value} {nt : Nat} {todo todo' : List It} {ds : List Deferred} {kd : CallKind} {ro : Option Nat} {fcs : List Fr} {rf : Frame} {rcs : List Frame} {g G : List Nat}
    (s : St P A B w0 f0 ρ ⟨fn, tm, nt, todo, ds, .run, kd, ro⟩ fcs h n rf rcs w g G) {ys' : List Item} (hp : g = []) (htr : TRx ρ [] tm nt rf.tmps) (hi : ItRs ρ todo' ys')
    (hs : step P (lone rf (rcs ++ cs) w) = .next (lone { rf with todo := ys' } (rcs ++ cs) w)) :
    Goal P A B w0 f0 cs rf rcs w (.next ⟨⟨fn, tm, nt, todo', ds, .run, kd, ro⟩, fcs, h, n⟩) := by
  subst hp
  exact s.top hs ⟨s.fr.fn, s.fr.kind, .plain hi htr, s.fr.ds, s.fr.mode, s.fr.ro⟩ s.g rfl

theorem mode_run {ρ : Rho} {m : FrameMode} (hm : ModeR ρ .run m) : m = .run := by cases hm; rfl

/-- a state with an item on top, no region that draws -/
theorem St.plain {fn : FuncId} {tm : T Value} {nt : Nat} {it : It} {k : List It} {ds : List Deferred} {kd : CallKind} {ro : Option Nat} {fcs : List Fr} {rf : Frame} {rcs : List Frame} {g G : List Nat}
    (s : St P A B w0 f0 ρ ⟨fn, tm, nt, it :: k, ds, .run, kd, ro⟩ fcs h n rf rcs w g G) (hno : ∀ ops pend l, it ≠ .inDraw ops pend l) :
    ∃ y ys, rf.todo = y :: ys ∧ ItR ρ it y ∧ ItRs ρ k ys ∧ g = [] ∧ TRx ρ [] tm nt rf.tmps ∧ rf.mode = .run := by
  have hm := mode_run s.fr.mode
  have hb := s.fr.body
  generalize hy : rf.todo = ys at hb
  cases hb with
  | plain h1 h2 =>
    cases h1 with
    | cons h3 h4 => exact ⟨_, _, rfl, h3, h4, rfl, h2, hm⟩
  | draw => exact absurd rfl (hno _ _ _)

section ctl
variable {fn : FuncId} {tm : T Value} {nt : Nat} {k : List It} {ds : List Deferred} {kd : CallKind} {ro : Option Nat} {fcs : List Fr} {rf : Frame} {rcs : List Frame} {g G : List Nat}

theorem g_skip {it : It} (hit : it = .code .skip ∨ (∃ l, it = .code (.label l)) ∨ (∃ id, it = .inBlock id) ∨ (∃ ops, it = .inRegion ops [])) (s : St P A B w0 f0 ρ ⟨fn, tm, nt, it :: k, ds, .run, kd, ro⟩ fcs h n rf rcs w g G) :
    Goal P A B w0 f0 cs rf rcs w (gSkip A fn tm nt k ds kd ro fcs h n) := by
  obtain ⟨y, ys, hy, h1, h2, hg, ht, hm⟩ := s.plain (by rintro ops pend l rfl; rcases hit with hh | ⟨_, hh⟩ | ⟨_, hh⟩ | ⟨_, hh⟩ <;> simp at hh)
  refine s.to hg ht h2 (step_lone_go ?_)
  rcases hit with rfl | ⟨l, rfl⟩ | ⟨id, rfl⟩ | ⟨ops, rfl⟩
  · cases h1; simp [stepG, stepG.exec, hy, hm]
  · cases h1; simp [stepG, stepG.exec, hy, hm]
  · cases h1; simp [stepG, stepG.exec, hy, hm]
  · generalize hl : ([] : List Oper) = l at h1
    cases h1 with
    | @inRegion _ kk hok =>
      have : (List.range ops.size).drop kk = [] := by
        have := congrArg List.length hl
        simp at this
        rw [List.drop_eq_nil_iff]; simp; omega
      rw [this] at hy
      simp [stepG, stepG.exec, hy, hm]

theorem g_seq {a b : Code} (s : St P A B w0 f0 ρ ⟨fn, tm, nt, .code (.seq a b) :: k, ds, .run, kd, ro⟩ fcs h n rf rcs w g G) :
    Goal P A B w0 f0 cs rf rcs w (gSeq a b A fn tm nt k ds kd ro fcs h n) := by
  obtain ⟨y, ys, hy, h1, h2, hg, ht, hm⟩ := s.plain (by simp)
  cases h1 with
  | code hc =>
    simp only [codeOk, Bool.and_eq_true] at hc
    exact s.to hg ht (.cons (.code hc.1) (.cons (.code hc.2) h2)) (step_lone_go (by simp [stepG, stepG.exec, hy, hm]))

theorem rf_eval {rf : Frame} {x : Operand} {tm : T Value} {nt : Nat} {D : List Tmp} (ht : TRx ρ D tm nt rf.tmps) (hgl : Globs ρ) (hx : operandOk x = true) (hD : ∀ t, x = .tmp t → t ∉ D) : VR ρ (ev tm x) (rf.eval x) :=
  ev_rel (rv := rf.eval) ht hgl hx hD (fun _ => rfl) (fun _ => rfl) (fun _ => rfl) (fun _ => rfl)

theorem g_cond {c : Operand} {a b : Code} (s : St P A B w0 f0 ρ ⟨fn, tm, nt, .code (.cond c a b) :: k, ds, .run, kd, ro⟩ fcs h n rf rcs w g G) :
    Goal P A B w0 f0 cs rf rcs w (gCond c a b A fn tm nt k ds kd ro fcs h n) := by
  obtain ⟨y, ys, hy, h1, h2, hg, ht, hm⟩ := s.plain (by simp)
  cases h1 with
  | code hc =>
    simp only [codeOk, Bool.and_eq_true] at hc
    have hv := rf_eval ht s.gl hc.1.1 (fun t _ => by simp)
    unfold gCond
    split
    · rename_i t htt
      rw [htt] at hv
      generalize he : rf.eval c = v' at hv
      cases hv
      cases t with
      | true =>
        simp only [cond_true]
        exact s.to hg ht (.cons (.code hc.1.2) h2) (step_lone_go (by simp [stepG, stepG.exec, hy, hm, he]))
      | false =>
        simp only [cond_false]
        exact s.to hg ht (.cons (.code hc.2) h2) (step_lone_go (by simp [stepG, stepG.exec, hy, hm, he]))
    · exact Goal.fail

theorem g_block {id : Nat} {b : Code} (s : St P A B w0 f0 ρ ⟨fn, tm, nt, .code (.block id b) :: k, ds, .run, kd, ro⟩ fcs h n rf rcs w g G) :
    Goal P A B w0 f0 cs rf rcs w (gBlock id b A fn tm nt k ds kd ro fcs h n) := by
  obtain ⟨y, ys, hy, h1, h2, hg, ht, hm⟩ := s.plain (by simp)
  cases h1 with
  | code hc =>
    simp only [codeOk] at hc
    exact s.to hg ht (.cons (.code hc) (.cons (.inBlock id) h2)) (step_lone_go (by simp [stepG, stepG.exec, hy, hm]))

theorem g_loop {it : It} {b : Code} (hit : it = .code (.loop b) ∨ it = .inLoop b) (s : St P A B w0 f0 ρ ⟨fn, tm, nt, it :: k, ds, .run, kd, ro⟩ fcs h n rf rcs w g G) :
    Goal P A B w0 f0 cs rf rcs w (gLoop b A fn tm nt k ds kd ro fcs h n) := by
  obtain ⟨y, ys, hy, h1, h2, hg, ht, hm⟩ := s.plain (by rintro ops pend l rfl; rcases hit with hh | hh <;> simp at hh)
  rcases hit with rfl | rfl
  · cases h1 with
    | code hc =>
      simp only [codeOk] at hc
      exact s.to hg ht (.cons (.code hc) (.cons (.inLoop hc) h2)) (step_lone_go (by simp [stepG, stepG.exec, hy, hm]))
  · cases h1 with
    | inLoop hc => exact s.to hg ht (.cons (.code hc) (.cons (.inLoop hc) h2)) (step_lone_go (by simp [stepG, stepG.exec, hy, hm]))

theorem g_region {id : Nat} {ops : Array Oper} (s : St P A B w0 f0 ρ ⟨fn, tm, nt, .code (.region id ops false) :: k, ds, .run, kd, ro⟩ fcs h n rf rcs w g G) :
    Goal P A B w0 f0 cs rf rcs w (gRegion ops A fn tm nt k ds kd ro fcs h n) := by
  obtain ⟨y, ys, hy, h1, h2, hg, ht, hm⟩ := s.plain (by simp)
  cases h1 with
  | code hc =>
    simp only [codeOk, List.all_eq_true] at hc
    have := ItR.inRegion (ρ := ρ) (k := 0) hc
    simp only [List.drop_zero] at this
    exact s.to hg ht (.cons this h2) (step_lone_go (by simp [stepG, stepG.exec, hy, hm]))

theorem exitTo_rel {ρ : Rho} {id : Nat} : ∀ {xs : List It} {ys : List Item}, ItRs ρ xs ys → ∀ {xs' : List It}, exitToA id xs = some xs' → ∃ ys', exitTo id ys = some ys' ∧ ItRs ρ xs' ys'
  | _, _, .nil, xs', he => by simp [exitToA] at he
  | _, _, .cons h hs, xs', he => by
    cases h with
    | inBlock id' =>
      simp only [exitToA, natBeq, Bool.cond_decide] at he
      split at he
      · rename_i hid
        simp only [Option.some.injEq] at he
        subst he
        exact ⟨_, by simp [exitTo, hid], hs⟩
      · rename_i hid
        obtain ⟨ys', g1, g2⟩ := exitTo_rel hs he
        exact ⟨ys', by simp [exitTo, hid, g1], g2⟩
    | _ =>
      simp only [exitToA] at he
      obtain ⟨ys', g1, g2⟩ := exitTo_rel hs he
      exact ⟨ys', by simp [exitTo, g1], g2⟩
theorem exitTo_none {ρ : Rho} {id : Nat} : ∀ {xs : List It} {ys : List Item}, ItRs ρ xs ys → exitToA id xs = none → exitTo id ys = none
  | _, _, .nil, _ => rfl
  | _, _, .cons h hs, he => by
    cases h with
    | inBlock id' =>
      simp only [exitToA, natBeq, Bool.cond_decide] at he
      split at he
      · simp at he
      · rename_i hid
        simp [exitTo, hid, exitTo_none hs he]
    | _ =>
      simp only [exitToA] at he
      simp [exitTo, exitTo_none hs he]
end ctl
end
end Go.Am
end
section
set_option linter.unusedVariables false
namespace Go.Am
open Go Go.RowKit

/-! what a drawing region's check tells -/
theorem drawOk_guard {A : AP} {ops : List Oper} {l : List Nat} (hd : drawOk A ops l = true) {i : Nat} (hi : i ∈ l) {o : Oper} (ho : ops[i]? = some o) {j : Nat} {b : Bool} (hg : o.guard = some (j, b)) : j ∈ predsOf ops i := by
  have := (upTo_iff.1 hd) i hi
  cases hgo : guardOk ops i with
  | false => simp [hgo] at this
  | true =>
    unfold guardOk at hgo
    simp only [lnth_eq, ho, hg] at hgo
    unfold predsOf
    simp only [lnth_eq, ho]
    exact (natIn_iff _ _).1 hgo
theorem drawOk_apart {A : AP} {ops : List Oper} {l : List Nat} (hd : drawOk A ops l = true) {i j : Nat} (hi : i ∈ l) (hj : j ∈ l) (hne : i ≠ j) {o p : Oper} (ho : ops[i]? = some o) (hp : ops[j]? = some p) {d : Tmp} (hdst : p.dst = some d) :
    o.dst ≠ some d ∧ (names ops d o = true → j ∈ predsOf ops i ∨ (isFloat A ops i = true ∧ i ∈ predsOf ops j ∧ isFloat A ops j = false) ∨ (isFloat A ops i = false ∧ (isFloat A ops j = false ∨ i ∈ predsOf ops j))) := by
  have := (upTo_iff.1 hd) i hi
  cases hgo : guardOk ops i with
  | false => simp [hgo] at this
  | true =>
    simp only [hgo, cond_true] at this
    have hap := (upTo_iff.1 this) j hj
    unfold apart at hap
    simp only [natBeq, hne, decide_false, cond_false, lnth_eq, ho, hp, hdst] at hap
    cases hdi : dstIs d o with
    | true => simp [hdi] at hap
    | false =>
      simp only [hdi, cond_false] at hap
      refine ⟨fun hod => ?_, fun hn => ?_⟩
      · unfold dstIs at hdi
        rw [hod] at hdi
        simp [natBeq] at hdi
      · simp only [hn, cond_true, Bool.or_eq_true] at hap
        have e1 : natIn j (predsOfM .any o) = true ↔ j ∈ predsOf ops i := by rw [natIn_iff]; simp [predsOf, ho]
        have e2 : natIn i (predsOfM .any p) = true ↔ i ∈ predsOf ops j := by rw [natIn_iff]; simp [predsOf, hp]
        rcases hap with h1 | h1
        · exact .inl (e1.1 h1)
        · cases hf : isFloat A ops i with
          | true =>
            simp only [hf, cond_true, Bool.and_eq_true, Bool.not_eq_true'] at h1
            exact .inr (.inl ⟨rfl, e2.1 h1.1, h1.2⟩)
          | false =>
            simp only [hf, cond_false, Bool.or_eq_true, Bool.not_eq_true'] at h1
            exact .inr (.inr ⟨rfl, h1.imp id e2.1⟩)

/-- the operation that comes next in the model, and another one that AM has done ahead -/
theorem DrawR.sepUse {A : AP} {ops : Array Oper} {pend rest X L' : List Nat} {i : Nat} (D : DrawR A ops pend rest X (i :: L')) {x : Nat} (hx : x ∈ X) (hne : i ≠ x) {o p : Oper} (ho : ops.toList[i]? = some o) (hp : ops.toList[x]? = some p) {d : Tmp} (hd : p.dst = some d) :
    o.dst ≠ some d ∧ names ops.toList d o = false := by
  have hil : i ∈ List.range ops.size := List.mem_range.2 (D.lt i (by simp))
  have hxL : x ∈ i :: L' := (D.mem x).2 (.inl hx)
  have hxl : x ∈ List.range ops.size := List.mem_range.2 (D.lt x hxL)
  obtain ⟨h1, h2⟩ := drawOk_apart D.sep hil hxl hne ho hp hd
  refine ⟨h1, ?_⟩
  cases hn : names ops.toList d o with
  | false => rfl
  | true =>
    exfalso
    rcases h2 hn with h3 | ⟨h3, h4, h5⟩ | ⟨h3, h4⟩
    · exact D.ord [] i L' rfl x h3 hxL
    · rw [D.fl x hx] at h5; simp at h5
    · rcases h4 with h4 | h4
      · rw [D.fl x hx] at h4; simp at h4
      · -- the operation is sequenced, and is one of those that are left
        have hir : i ∈ rest := by
          rcases (D.mem i).1 (by simp) with h | h
          · rw [D.fl i h] at h3; simp at h3
          · exact h
        exact D.xpred x hx i h4 hir

theorem names_operand {ops : List Oper} {d : Tmp} {o : Oper} (hn : names ops d o = false) {x : Operand} (hx : x ∈ o.op.operands.toList) : x ≠ .tmp d := by
  rintro rfl
  unfold names at hn
  simp only [Bool.or_eq_false_iff] at hn
  have := hn.2.1
  rw [List.any_eq_false] at this
  have := this _ hx
  simp [tmpIs, natBeq] at this

theorem dsts_mem {ops : Array Oper} {X : List Nat} {d : Tmp} : d ∈ dsts ops X ↔ ∃ x ∈ X, ∃ p, ops.toList[x]? = some p ∧ p.dst = some d := by
  unfold dsts dstOf
  rw [List.mem_filterMap]
  constructor
  · rintro ⟨x, hx, h⟩
    cases hp : ops[x]? with
    | none => simp [hp] at h
    | some p => exact ⟨x, hx, p, by simpa using hp, by simpa [hp] using h⟩
  · rintro ⟨x, hx, p, hp, hd⟩
    have hp' : ops[x]? = some p := by simpa using hp
    exact ⟨x, hx, by simp [hp', hd]⟩

/-- the operands of the next operation are related -/
theorem DrawR.operands {A : AP} {ops : Array Oper} {pend rest X L' : List Nat} {i : Nat} (D : DrawR A ops pend rest X (i :: L')) {ρ : Rho} {tm : T Value} {nt : Nat} {rf : Frame} (ht : TRx ρ (dsts ops X) tm nt rf.tmps) (hgl : Globs ρ)
    {o : Oper} (ho : ops.toList[i]? = some o) (hself : i ∈ X → ∀ d, o.dst = some d → ∀ x ∈ o.op.operands.toList, x ≠ .tmp d) : ∀ x ∈ o.op.operands.toList, VR ρ (ev tm x) (rf.eval x) := by
  intro x hx
  have hok : operOk o = true := D.ok o (List.mem_of_getElem? ho)
  refine rf_eval ht hgl (by unfold operOk at hok; rw [List.all_eq_true] at hok; exact hok x hx) (fun t he hmem => ?_)
  obtain ⟨y, hy, p, hp, hd⟩ := dsts_mem.1 hmem
  by_cases hiy : i = y
  · subst hiy
    rw [ho] at hp; cases hp
    exact hself hy t hd x hx he
  · exact names_operand (D.sepUse hy hiy ho hp hd).2 hx he

theorem drawOk_self {A : AP} {ops : List Oper} {l : List Nat} (hd : drawOk A ops l = true) {i : Nat} (hi : i ∈ l) {o : Oper} (ho : ops[i]? = some o) {d : Tmp} (hdst : o.dst = some d) : ∀ x ∈ o.op.operands.toList, x ≠ .tmp d := by
  have := (upTo_iff.1 hd) i hi
  cases hgo : guardOk ops i with
  | false => simp [hgo] at this
  | true =>
    simp only [hgo, cond_true] at this
    have hap := (upTo_iff.1 this) i hi
    unfold apart at hap
    simp only [natBeq, decide_true, cond_true, lnth_eq, ho] at hap
    unfold selfOk at hap
    simp only [hdst, Bool.not_eq_true', List.any_eq_false] at hap
    rintro x hx rfl
    have := hap _ hx
    simp [tmpIs, natBeq] at this

theorem DrawR.operands' {A : AP} {ops : Array Oper} {pend rest X L' : List Nat} {i : Nat} (D : DrawR A ops pend rest X (i :: L')) {ρ : Rho} {tm : T Value} {nt : Nat} {rf : Frame} (ht : TRx ρ (dsts ops X) tm nt rf.tmps) (hgl : Globs ρ)
    {o : Oper} (ho : ops.toList[i]? = some o) : ∀ x ∈ o.op.operands.toList, VR ρ (ev tm x) (rf.eval x) :=
  D.operands ht hgl ho fun hi d hd => drawOk_self D.sep (List.mem_range.2 (D.lt i (by simp))) ho hd

theorem boolEq : ∀ (a b : Bool), cond a b (!b) = true → a = b := by decide
/-- sameness -/
theorem valEq_sound : ∀ (d : Nat) (x y : Value), valEq d x y = true → x = y := by
  intro d
  induction d with
  | zero => intro x y h; simp [valEq] at h
  | succ d ih =>
    have hvals : ∀ (a b : List Value), valEq.vals (valEq d) a b = true → a = b := by
      intro a
      induction a with
      | nil => intro b h; cases b with
        | nil => rfl
        | cons y ys => simp [valEq.vals] at h
      | cons x xs iha =>
        intro b h
        cases b with
        | nil => simp [valEq.vals] at h
        | cons y ys =>
          simp only [valEq.vals] at h
          cases hxy : valEq d x y with
          | false => simp [hxy] at h
          | true => simp only [hxy, cond_true] at h; rw [ih x y hxy, iha ys h]
    intro x y h
    unfold valEq at h
    split at h
    all_goals (try (split at h))
    all_goals first
      | rfl
      | exact absurd h (by decide)
      | exact congrArg Value.bool (boolEq _ _ h)
      | (simp only [Bool.and_eq_true, kindEq_eq, intEq_eq, decide_eq_true_eq] at h; obtain ⟨rfl, rfl⟩ := h; rfl)
      | (simp only [bytesEq_eq, decide_eq_true_eq] at h; exact congrArg Value.string (ByteArray.ext (Array.toList_inj.1 h)))
      | (simp only [Bool.and_eq_true, natBeq, decide_eq_true_eq] at h; obtain ⟨rfl, rfl⟩ := h; rfl)
      | (simp only [Bool.and_eq_true, natBeq, decide_eq_true_eq] at h; obtain ⟨⟨rfl, rfl⟩, rfl, rfl⟩ := h; rfl)
      | (simp only [natBeq, decide_eq_true_eq] at h; subst h; rfl)
      | (simp only [Bool.and_eq_true, natBeq, decide_eq_true_eq] at h; obtain ⟨rfl, h1, h2⟩ := h; rw [hvals _ _ h1, hvals _ _ h2])
      | (simp only [Bool.and_eq_true, natBeq, decide_eq_true_eq] at h; obtain ⟨rfl, h1⟩ := h; rw [ih _ _ h1])
      | rw [hvals _ _ h]

/-- a guard -/
theorem yielded_rel {ops : Array Oper} {ρ : Rho} {D : List Tmp} {tm : T Value} {nt : Nat} {tr : Array Value} (ht : TRx ρ D tm nt tr) {j : Nat} (hD : ∀ p d, ops.toList[j]? = some p → p.dst = some d → d ∉ D) :
    yielded ops tr j = yieldedA ops.toList tm j := by
  unfold yielded yieldedA
  simp only [lnth_eq]
  cases hp : ops[j]? with
  | none =>
    have hp' : ops.toList[j]? = none := by simpa using hp
    simp only [hp', Option.bind_none]
  | some p =>
    have hp' : ops.toList[j]? = some p := by simpa using hp
    simp only [hp', Option.bind_some]
    cases hd : p.dst with
    | none => simp
    | some d =>
      have hv := ht.2 d (hD p d hp' hd)
      simp only [Option.bind_some]
      by_cases hlt : d < tr.size
      · have e1 : tr[d]? = some tr[d] := by simp [hlt]
        have e2 : tr.getD d Go.undef = tr[d] := by simp [Array.getD, hlt]
        rw [e2] at hv
        rw [e1]
        unfold ev at hv
        simp only at hv
        cases hg : tm.get d with
        | none =>
          simp only [hg] at hv
          generalize tr[d] = x at hv
          cases hv
          rfl
        | some y =>
          simp only [hg] at hv
          generalize tr[d] = x at hv
          cases hv <;> rfl
      · have e1 : tr[d]? = none := Array.getElem?_eq_none (Nat.le_of_not_lt hlt)
        have e2 : tr.getD d Go.undef = .tuple #[] := by simp [Array.getD, hlt, Go.undef]
        rw [e2] at hv
        rw [e1]
        unfold ev at hv
        simp only at hv
        cases hg : tm.get d with
        | none => rfl
        | some y =>
          simp only [hg] at hv
          cases y <;> first | rfl | (exfalso; cases hv; done)
theorem wantedA_eq {ops : Array Oper} {tm : T Value} {tr : Array Value} {o : Oper} (hy : ∀ j b, o.guard = some (j, b) → yielded ops tr j = yieldedA ops.toList tm j) : Region.wanted o (yielded ops tr) = wantedA o.guard ops.toList tm := by
  unfold Region.wanted wantedA
  cases hg : o.guard with
  | none => rfl
  | some jb =>
    obtain ⟨j, b⟩ := jb
    simp only [hy j b hg]
    cases yieldedA ops.toList tm j with
    | none => rfl
    | some c => cases c <;> cases b <;> rfl
theorem wanted_rel {A : AP} {ops : Array Oper} {pend rest X L' : List Nat} {i : Nat} (D : DrawR A ops pend rest X (i :: L')) {ρ : Rho} {tm : T Value} {nt : Nat} {tr : Array Value} (ht : TRx ρ (dsts ops X) tm nt tr)
    {o : Oper} (ho : ops.toList[i]? = some o) : Region.wanted o (yielded ops tr) = wantedA o.guard ops.toList tm := by
  refine wantedA_eq fun j b hg => yielded_rel ht fun p d hp hd hmem => ?_
  have hil : i ∈ List.range ops.size := List.mem_range.2 (D.lt i (by simp))
  have hji := drawOk_guard D.sep hil ho hg
  obtain ⟨x, hx, q, hq, hqd⟩ := dsts_mem.1 hmem
  have hxL : x ∈ i :: L' := (D.mem x).2 (.inl hx)
  by_cases hjx : j = x
  · subst hjx
    exact D.ord [] i L' rfl j hji hxL
  · have hjl : j ∈ List.range ops.size := by
      rw [List.mem_range]
      have : ops[j]? = some p := by simpa using hp
      rw [Array.getElem?_eq_some_iff] at this
      exact this.1
    exact (drawOk_apart D.sep hjl (List.mem_range.2 (D.lt x hxL)) hjx hp hq hqd).1 hd

/-! steps of the model in a region -/
section
variable {P : Program} {rf : Frame} {cs : List Frame} {w w' : World} {ops : Array Oper} {i : Nat} {L : List Nat} {k' : List Item} {o : Oper}

theorem stepG_oper (hm : rf.mode = .run) (ht : rf.todo = .inRegion ops (i :: L) :: k') (ho : ops.toList[i]? = some o) (hw : Region.wanted o (yielded ops rf.tmps) = true) (hnd : rf.roundOf = none ∨ ∀ c, o.op ≠ .defer c) :
    stepG P true { frame := rf, callers := cs, status := .running, dying := none } w = stepG.apply P true rf cs none (execOp rf.eval o) w := by
  have ho' : ops[i]? = some o := by simpa using ho
  have hoper : rf.oper? = some o := by simp [Frame.oper?, ht, ho']
  simp only [stepG, hm, stepG.exec, ht, ho', Option.map_some, Option.getD_some, hw, if_true, stepG.oper, hoper]
  rcases hnd with hr | hr
  · simp [hr]
  · split
    · rename_i l c h1 h2; exact absurd h2 (hr c)
    · rfl
theorem step_notWanted (hm : rf.mode = .run) (ht : rf.todo = .inRegion ops (i :: L) :: k') (ho : ops.toList[i]? = some o) (hw : Region.wanted o (yielded ops rf.tmps) = false) :
    step P (lone rf cs w) = .next (lone (rf.finish Go.undef) cs w) := by
  have ho' : ops[i]? = some o := by simpa using ho
  refine step_lone_go ?_
  simp [stepG, hm, stepG.exec, ht, ho', hw]
theorem step_value (hm : rf.mode = .run) (ht : rf.todo = .inRegion ops (i :: L) :: k') (ho : ops.toList[i]? = some o) (hw : Region.wanted o (yielded ops rf.tmps) = true) (hnd : rf.roundOf = none ∨ ∀ c, o.op ≠ .defer c)
    {v : Value} (hr : (execOp rf.eval o).run P w = .ok (.value v) w') : step P (lone rf cs w) = .next (lone (rf.finish v) cs w') := by
  refine step_lone_go ?_
  rw [stepG_oper hm ht ho hw hnd]
  simp [stepG.apply, hr]
theorem finish_region (ht : rf.todo = .inRegion ops (i :: L) :: k') (ho : ops.toList[i]? = some o) (v : Value) :
    rf.finish v = { rf with tmps := match o.dst with | some d => rf.tmps.setIfInBounds d v | none => rf.tmps, todo := .inRegion ops L :: k' } := by
  have ho' : ops[i]? = some o := by simpa using ho
  simp only [Frame.finish, ht, ho', Option.bind_some]
  cases o.dst <;> rfl
end
end Go.Am
end
section
set_option linter.unusedVariables false
namespace Go.Am
open Go Go.RowKit

/-- what each operation of AM is in the model (proved where all operations are together) -/
def ExecOk (P : Program) (A : AP) : Prop := ∀ {ρ : Rho} {h : T Ob} {n B : Nat} {w0 w : World}, WR P ρ h n B w0 w → ∀ {tm : T Value} {rv : Operand → Value} (o : Oper),
  (∀ x ∈ o.op.operands.toList, VR ρ (ev tm x) (rv x)) → Sim P ρ h n B w0 w (execX o.op A tm h n) (execOp rv o)
/-- operations that may be done early, and make no block, leave the heap as it is -/
def FloatOk (A : AP) : Prop := ∀ (op : Op) (fk : Fk), floats A op = some fk → isAlloc fk = false → ∀ (tm : T Value) (h : T Ob) (n : Nat) (v : Value) (h' : T Ob) (n' : Nat), execX op A tm h n = .ok (.value v) h' n' → h' = h ∧ n' = n
/-- those that make one: cells, the same in both -/
def AllocOk (P : Program) (A : AP) : Prop := ∀ {ρ : Rho} {h : T Ob} {n B : Nat} {w0 w : World}, WR P ρ h n B w0 w → ∀ {tm : T Value} {rv : Operand → Value} (o : Oper),
  (∀ x ∈ o.op.operands.toList, VR ρ (ev tm x) (rv x)) → floats A o.op = some .alloc → ∀ (v : Value) (h' : T Ob) (n' : Nat), execX o.op A tm h n = .ok (.value v) h' n' →
  ∃ c el cr, h.put n (.cells c el 0 0) = some h' ∧ n' = n + 1 ∧ VRs ρ c cr.toList ∧
    ((v = .pointer (some ⟨n, 0, none⟩) ∧ (execOp rv o).run P w = .ok (.value (.pointer (some ⟨w.heap.size, 0, none⟩))) { w with heap := w.heap.push (.cells cr el) }) ∨
     ∃ l cap, cap < LOOSE ∧ v = .slice (some ⟨n, 0, none⟩) l cap ∧ (execOp rv o).run P w = .ok (.value (.slice (some ⟨w.heap.size, 0, none⟩) l cap)) { w with heap := w.heap.push (.cells cr el) })

/-- a state in a region that draws -/
structure DSt (P : Program) (A : AP) (ρ : Rho) (tm : T Value) (nt : Nat) (h : T Ob) (n B : Nat) (w0 : World) (ops : Array Oper) (pend rest X L : List Nat) (k' : List Item) (rf : Frame) (w : World) (G : List Nat) : Prop where
  hw : WR P ρ h n B w0 w
  D : DrawR A ops pend rest X L
  ht : TRx ρ (dsts ops X) tm nt rf.tmps
  todo : rf.todo = .inRegion ops L :: k'
  mode : rf.mode = .run
  g : GOk ρ n (blks A ops tm X ++ G)
  gl : Globs ρ
  dlt : ∀ d ∈ dsts ops X, d < nt

section
variable {P : Program} {A : AP} {ρ : Rho} {tm : T Value} {nt : Nat} {h : T Ob} {n B : Nat} {w0 w : World} {ops : Array Oper} {pend rest X L L' : List Nat} {k' : List Item} {rf : Frame} {G : List Nat} {i : Nat} {o : Oper}

/-- without one that the model has done now, too -/
theorem DrawR.done (D : DrawR A ops pend rest X (i :: L')) (hi : i ∈ X) : DrawR A ops pend rest (X.erase i) L' where
  ok := D.ok
  sep := D.sep
  mem := fun j => by
    have hn := List.nodup_cons.1 D.nodup
    rw [D.xnodup.mem_erase_iff]
    constructor
    · intro hj
      have hne : j ≠ i := by rintro rfl; exact hn.1 hj
      rcases (D.mem j).1 (by simp [hj]) with h | h
      · exact .inl ⟨hne, h⟩
      · exact .inr h
    · rintro (⟨hne, hj⟩ | hj)
      · exact (List.mem_cons.1 ((D.mem j).2 (.inl hj))).resolve_left hne
      · refine (List.mem_cons.1 ((D.mem j).2 (.inr hj))).resolve_left ?_
        rintro rfl; exact D.disj j hi hj
  nodup := (List.nodup_cons.1 D.nodup).2
  xnodup := D.xnodup.erase i
  rnodup := D.rnodup
  disj := fun j hj => D.disj j (List.mem_of_mem_erase hj)
  sub := fun j hj => D.sub j (List.mem_of_mem_erase hj)
  lt := fun j hj => D.lt j (by simp [hj])
  ord := fun L1 j L2 he => D.ord (i :: L1) j L2 (by simp [he])
  arest := D.arest
  xpred := fun j hj => D.xpred j (List.mem_of_mem_erase hj)
  fl := fun j hj => D.fl j (List.mem_of_mem_erase hj)

/-- the temporaries behind that -/
theorem TRx.done {ρ' : Rho} (he : ∀ b e, ρ b = some e → ρ' b = some e) (D : DrawR A ops pend rest X (i :: L')) (hi : i ∈ X) (ho : ops.toList[i]? = some o) {tr : Array Value} (ht : TRx ρ (dsts ops X) tm nt tr) {v : Value}
    (hv : ∀ d, o.dst = some d → VR ρ' (ev tm (.tmp d)) v) (hlt : ∀ d, o.dst = some d → d < nt) : TRx ρ' (dsts ops (X.erase i)) tm nt (match o.dst with | some d => tr.setIfInBounds d v | none => tr) := by
  refine ⟨by cases o.dst <;> simp [ht.1], fun t hnt => ?_⟩
  cases hd : o.dst with
  | none =>
    simp only
    refine (ht.2 t fun hm => hnt ?_).ext he
    obtain ⟨x, hx, p, hp, hpd⟩ := dsts_mem.1 hm
    refine dsts_mem.2 ⟨x, ?_, p, hp, hpd⟩
    rw [D.xnodup.mem_erase_iff]
    exact ⟨by rintro rfl; rw [ho] at hp; cases hp; rw [hd] at hpd; simp at hpd, hx⟩
  | some d =>
    simp only
    by_cases htd : t = d
    · subst htd
      have : t < tr.size := by rw [ht.1]; exact hlt t hd
      have e : (tr.setIfInBounds t v).getD t Go.undef = v := by simp [Array.getD, this]
      rw [e]; exact hv t hd
    · have e : (tr.setIfInBounds d v).getD t Go.undef = tr.getD t Go.undef := by
        simp only [Array.getD_eq_getD_getElem?]
        rw [Array.getElem?_setIfInBounds_ne (Ne.symm htd)]
      rw [e]
      refine (ht.2 t fun hm => hnt ?_).ext he
      obtain ⟨x, hx, p, hp, hpd⟩ := dsts_mem.1 hm
      refine dsts_mem.2 ⟨x, ?_, p, hp, hpd⟩
      rw [D.xnodup.mem_erase_iff]
      exact ⟨by rintro rfl; rw [ho] at hp; cases hp; rw [hd] at hpd; simp at hpd; exact htd hpd.symm, hx⟩

theorem blks_perm (hi : i ∈ X) : (blks A ops tm X).Perm ((blkOf A ops tm i).toList ++ blks A ops tm (X.erase i)) := by
  have h1 := (List.perm_cons_erase hi).filterMap (blkOf A ops tm)
  unfold blks
  refine h1.trans (List.Perm.of_eq ?_)
  cases hb : blkOf A ops tm i <;> simp [List.filterMap_cons, hb]
theorem g_erase (hi : i ∈ X) (hg : GOk ρ n (blks A ops tm X ++ G)) : GOk ρ n (blks A ops tm (X.erase i) ++ G) ∧ ∀ b, blkOf A ops tm i = some b → (ρ b = none ∧ b < n ∧ b ∉ blks A ops tm (X.erase i) ++ G) := by
  have hp : (blks A ops tm X ++ G).Perm ((blkOf A ops tm i).toList ++ (blks A ops tm (X.erase i) ++ G)) := by
    have := (blks_perm (A := A) (ops := ops) (tm := tm) hi).append_right G
    rwa [List.append_assoc] at this
  have hn := hp.nodup_iff.1 hg.1
  rw [List.nodup_append] at hn
  refine ⟨⟨hn.2.1, fun b hb => hg.2 b (hp.mem_iff.2 (List.mem_append.2 (.inr hb)))⟩, fun b hb => ?_⟩
  have hm : b ∈ (blkOf A ops tm i).toList := by simp [hb]
  obtain ⟨h1, h2⟩ := hg.2 b (hp.mem_iff.2 (List.mem_append.2 (.inl hm)))
  exact ⟨h1, h2, fun hc => hn.2.2 b hm b hc rfl⟩

theorem dsts_erase {d : Tmp} (hd : d ∈ dsts ops (X.erase i)) : d ∈ dsts ops X := by
  obtain ⟨x, hx, p, hp, hpd⟩ := dsts_mem.1 hd
  exact dsts_mem.2 ⟨x, List.mem_of_mem_erase hx, p, hp, hpd⟩

theorem sameVal_ev {dst : Option Tmp} {v : Value} (hs : sameVal dst tm v = true) : ∀ d, dst = some d → ev tm (.tmp d) = v := by
  rintro d rfl
  unfold sameVal at hs
  simp only at hs
  split at hs
  · rename_i u hu
    simp only [ev, hu]
    exact (valEq_sound 40 v u hs).symm
  · simp at hs

theorem step_skip' {cs : List Frame} {L : List Nat} (hm : rf.mode = .run) (ht : rf.todo = .inRegion ops (i :: L) :: k') (ho : ops.toList[i]? = some o) (hw : Region.wanted o (yielded ops rf.tmps) = true) (hnd : rf.roundOf = none ∨ ∀ c, o.op ≠ .defer c)
    {w w' : World} (hr : (execOp rf.eval o).run P w = .ok .skip w') : step P (lone rf cs w) = .next (lone (rf.finish Go.undef) cs w') := by
  refine step_lone_go ?_
  rw [stepG_oper hm ht ho hw hnd]
  simp [stepG.apply, hr]

/-- what stays of a frame -/
def SameFr (rf rf' : Frame) : Prop := rf'.fn = rf.fn ∧ rf'.kind = rf.kind ∧ rf'.defers = rf.defers ∧ rf'.mode = rf.mode ∧ rf'.roundOf = rf.roundOf
theorem SameFr.trans {a b c : Frame} (h : SameFr a b) (h' : SameFr b c) : SameFr a c :=
  ⟨h'.1.trans h.1, h'.2.1.trans h.2.1, h'.2.2.1.trans h.2.2.1, h'.2.2.2.1.trans h.2.2.2.1, h'.2.2.2.2.trans h.2.2.2.2⟩
theorem SameFr.refl (a : Frame) : SameFr a a := ⟨rfl, rfl, rfl, rfl, rfl⟩

/-- the model has done one more of those that AM did ahead -/
theorem DSt.caught {w w' : World} (s : DSt P A ρ tm nt h n B w0 ops pend rest X (i :: L') k' rf w G) (hi : i ∈ X) (ho : ops.toList[i]? = some o) {ρ' : Rho} (he : ∀ b e, ρ b = some e → ρ' b = some e) (hw : WR P ρ' h n B w0 w')
    (hg : GOk ρ' n (blks A ops tm (X.erase i) ++ G)) {v : Value} (hv : ∀ d, o.dst = some d → VR ρ' (ev tm (.tmp d)) v) :
    DSt P A ρ' tm nt h n B w0 ops pend rest (X.erase i) L' k' (rf.finish v) w' G ∧ SameFr rf (rf.finish v) := by
  rw [finish_region s.todo ho]
  have hlt : ∀ d, o.dst = some d → d < nt := fun d hd => s.dlt d (dsts_mem.2 ⟨i, hi, o, ho, hd⟩)
  refine ⟨⟨hw, s.D.done hi, TRx.done he s.D hi ho s.ht hv hlt, rfl, s.mode, hg, s.gl.ext he, fun d hd => s.dlt d (dsts_erase hd)⟩, rfl, rfl, rfl, rfl, rfl⟩

theorem vals_sound (d : Nat) : ∀ (a b : List Value), valEq.vals (valEq d) a b = true → a = b
  | [], [], _ => rfl
  | [], y :: ys, h => by simp [valEq.vals] at h
  | x :: xs, [], h => by simp [valEq.vals] at h
  | x :: xs, y :: ys, h => by
    simp only [valEq.vals] at h
    cases hxy : valEq d x y with
    | false => simp [hxy] at h
    | true => simp only [hxy, cond_true] at h; rw [valEq_sound d x y hxy, vals_sound d xs ys h]
theorem sameCells_sound {h' h : T Ob} {b' b : Nat} {c : List Value} {el : TypeId} {lo hi : Nat} (hb : h'.get b' = some (.cells c el lo hi)) (hs : sameCells h' b' h b = true) : h.get b = some (.cells c el lo hi) := by
  unfold sameCells at hs
  simp only [hb] at hs
  split at hs
  · rename_i c' e' lo' hi' hh
    simp only [Bool.and_eq_true, natBeq, decide_eq_true_eq] at hs
    obtain ⟨⟨rfl, rfl, rfl⟩, hc⟩ := hs
    rw [vals_sound 40 _ _ hc]; exact hh
  · simp at hs

theorem DSt.catch1 {w : World} (hE : ExecOk P A) (hF : FloatOk A) (hL : AllocOk P A) (s : DSt P A ρ tm nt h n B w0 ops pend rest X (i :: L') k' rf w G) (hi : i ∈ X) (hag : again A ops.toList tm h n i = true) :
    ∃ ρ' rf' w', (∀ cs, step P (lone rf cs w) = .next (lone rf' cs w')) ∧ (∀ b e, ρ b = some e → ρ' b = some e) ∧ (∀ b, b ∈ G → ρ' b = none) ∧ DSt P A ρ' tm nt h n B w0 ops pend rest (X.erase i) L' k' rf' w' G ∧ SameFr rf rf' := by
  have hlt := s.D.lt i (by simp)
  have ho : ops.toList[i]? = some (ops[i]'hlt) := by simp [hlt]
  generalize ops[i]'hlt = o at ho
  have hwant := wanted_rel s.D s.ht ho
  have hops := s.D.operands' s.ht s.gl ho
  obtain ⟨hg', hblk⟩ := g_erase hi s.g
  have hGnone : ∀ b, b ∈ G → ρ b = none := fun b hb => (s.g.2 b (List.mem_append.2 (.inr hb))).1
  unfold again at hag
  simp only [lnth_eq, ho] at hag
  obtain ⟨dst, op, ty, pos, after, g⟩ := o
  simp only at hag
  cases hwa : wantedA g ops.toList tm with
  | false =>
    simp only [hwa, cond_false] at hag
    rw [show wantedA (Oper.mk dst op ty pos after g).guard ops.toList tm = false from hwa] at hwant
    obtain ⟨h1, h2⟩ := s.caught hi ho (fun _ _ h => h) s.hw hg' (v := Go.undef) (fun d hd => by
      rw [sameVal_ev hag d hd]; exact VRs.toTuple VRs.nil)
    exact ⟨ρ, _, w, fun cs => step_notWanted s.mode s.todo ho hwant, fun _ _ h => h, hGnone, h1, h2⟩
  | true =>
    simp only [hwa, cond_true] at hag
    rw [show wantedA (Oper.mk dst op ty pos after g).guard ops.toList tm = true from hwa] at hwant
    have hval : ∀ fk, floats A op = some fk → isAlloc fk = false → againVal A op dst tm h n = true → ∃ ρ' rf' w', (∀ cs, step P (lone rf cs w) = .next (lone rf' cs w')) ∧ (∀ b e, ρ b = some e → ρ' b = some e) ∧ (∀ b, b ∈ G → ρ' b = none) ∧ DSt P A ρ' tm nt h n B w0 ops pend rest (X.erase i) L' k' rf' w' G ∧ SameFr rf rf' := by
      intro fk hfk hna hav
      have hnd : rf.roundOf = none ∨ ∀ c, (Oper.mk dst op ty pos after g).op ≠ .defer c := .inr fun c hc => by
        simp only at hc; subst hc; simp [floats] at hfk
      unfold againVal at hav
      split at hav
      · rename_i v h' n' hx
        simp only [Bool.and_eq_true] at hav
        obtain ⟨rfl, rfl⟩ := hF op fk hfk hna tm h n v h' n' hx
        rcases hE s.hw ⟨dst, op, ty, pos, after, g⟩ hops _ _ _ hx with ⟨_, _, hp, _⟩ | ⟨nx, w', ρ', hr, hext, hn, hw', hnx⟩
        · simp at hp
        · have hg2 : GOk ρ' n' (blks A ops tm (X.erase i) ++ G) := hg'.ext hext (Nat.le_refl _)
          have hG2 : ∀ b, b ∈ G → ρ' b = none := fun b hb => (hg2.2 b (List.mem_append.2 (.inr hb))).1
          cases hnx with
          | value hv =>
            obtain ⟨h1, h2⟩ := s.caught hi ho hext.1 hw' hg2 (fun d hd => by rw [sameVal_ev hav.1 d hd]; exact hv)
            exact ⟨ρ', _, w', fun cs => step_value s.mode s.todo ho hwant hnd hr, hext.1, hG2, h1, h2⟩
          | skip =>
            obtain ⟨h1, h2⟩ := s.caught hi ho hext.1 hw' hg2 (v := Go.undef) (fun d hd => by rw [sameVal_ev hav.1 d hd]; exact VRs.toTuple VRs.nil)
            exact ⟨ρ', _, w', fun cs => step_skip' s.mode s.todo ho hwant hnd hr, hext.1, hG2, h1, h2⟩
      · simp at hav
    split at hag
    · rename_i hfl
      split at hag
      · rename_i d
        have hnd : rf.roundOf = none ∨ ∀ c, (Oper.mk (some d) op ty pos after g).op ≠ .defer c := .inr fun c hc => by
          simp only at hc; subst hc; simp [floats] at hfl
        have key : ∀ (b : Nat) (h' : T Ob) (n' : Nat) (v : Value) (b' : Nat), execX op A tm h n = .ok (.value v) h' n' → blkOf A ops tm i = some b → sameCells h' b' h b = true → (b' = n) →
            (∀ ρ' : Rho, ρ' b = some ⟨w.heap.size, 0, 0⟩ ∨ (∃ e, ρ' b = some e ∧ e.r = w.heap.size) → ∀ v', (v = .pointer (some ⟨n, 0, none⟩) ∧ v' = .pointer (some ⟨w.heap.size, 0, none⟩)) ∨ (∃ l cap, cap < LOOSE ∧ v = .slice (some ⟨n, 0, none⟩) l cap ∧ v' = .slice (some ⟨w.heap.size, 0, none⟩) l cap) → VR ρ' (ev tm (.tmp d)) v') →
            ∃ ρ' rf' w', (∀ cs, step P (lone rf cs w) = .next (lone rf' cs w')) ∧ (∀ b e, ρ b = some e → ρ' b = some e) ∧ (∀ b, b ∈ G → ρ' b = none) ∧ DSt P A ρ' tm nt h n B w0 ops pend rest (X.erase i) L' k' rf' w' G ∧ SameFr rf rf' := by
          intro b h' n' v b' hx hbk hsc hbn hvr
          subst hbn
          obtain ⟨c, el, cr, hput, _, hcr, hres⟩ := hL s.hw ⟨some d, op, ty, pos, after, g⟩ hops hfl v h' n' hx
          have hgb := sameCells_sound (get_put_self hput) hsc
          obtain ⟨hb1, hb2, hb3⟩ := hblk b hbk
          have hsome := hcr.some_all
          have hne : ∀ b2, b2 ≠ b → (ρ.add b ⟨w.heap.size, cr.size, P.cellsOf el⟩) b2 = ρ b2 := fun b2 h2 => Rho.add_ne _ _ h2
          have hext : ∀ b2 e2, ρ b2 = some e2 → (ρ.add b ⟨w.heap.size, cr.size, P.cellsOf el⟩) b2 = some e2 := fun b2 e2 h2 => by
            rw [hne b2 (by rintro rfl; rw [hb1] at h2; simp at h2)]; exact h2
          have hw' := s.hw.adopt (o := .cells cr el) (e := ⟨w.heap.size, cr.size, P.cellsOf el⟩) rfl hgb hb1
            ⟨cr, 0, 0, by simp, rfl, rfl, hsome.1, fun j x hx => let ⟨y, hy, hv⟩ := hsome.2 j x hx; ⟨y, hy, hv.ext hext⟩, Nat.le_refl _, fun j _ hj => absurd hj (Nat.not_lt_zero j)⟩
          have hg2 : GOk (ρ.add b ⟨w.heap.size, cr.size, P.cellsOf el⟩) b' (blks A ops tm (X.erase i) ++ G) :=
            ⟨hg'.1, fun b2 h2 => ⟨by rw [hne b2 (by rintro rfl; exact hb3 h2)]; exact (hg'.2 b2 h2).1, (hg'.2 b2 h2).2⟩⟩
          have hG2 : ∀ b2, b2 ∈ G → (ρ.add b ⟨w.heap.size, cr.size, P.cellsOf el⟩) b2 = none := fun b2 h2 => (hg2.2 b2 (List.mem_append.2 (.inr h2))).1
          rcases hres with ⟨hv1, hr⟩ | ⟨l, cap, hcap, hv1, hr⟩
          · obtain ⟨h1, h2⟩ := s.caught hi ho hext hw' hg2 (v := .pointer (some ⟨w.heap.size, 0, none⟩)) (fun d' hd => by
              cases hd; exact hvr _ (.inr ⟨_, Rho.add_self _ _ _, rfl⟩) _ (.inl ⟨hv1, rfl⟩))
            exact ⟨_, _, _, fun cs => step_value s.mode s.todo ho hwant hnd hr, hext, hG2, h1, h2⟩
          · obtain ⟨h1, h2⟩ := s.caught hi ho hext hw' hg2 (v := .slice (some ⟨w.heap.size, 0, none⟩) l cap) (fun d' hd => by
              cases hd; exact hvr _ (.inr ⟨_, Rho.add_self _ _ _, rfl⟩) _ (.inr ⟨l, cap, hcap, hv1, rfl⟩))
            exact ⟨_, _, _, fun cs => step_value s.mode s.todo ho hwant hnd hr, hext, hG2, h1, h2⟩
        have hoi : ops[i]? = some ⟨some d, op, ty, pos, after, g⟩ := by simpa using ho
        unfold againAlloc at hag
        split at hag
        · rename_i b htm
          split at hag
          · rename_i b' h' n' hx
            have hb' : b' = n := by
              obtain ⟨c, el, cr, hput, _, hcr, hres⟩ := hL s.hw ⟨some d, op, ty, pos, after, g⟩ hops hfl _ h' n' hx
              rcases hres with ⟨hv1, _⟩ | ⟨l, cap, hcap, hv1, _⟩
              · simp at hv1; exact hv1
              · simp at hv1
            refine key b h' n' _ b' hx (by simp [blkOf, hoi, hfl, htm]) hag hb' (fun ρ' hρ v' hv' => ?_)
            obtain ⟨e, he1, he2⟩ : ∃ e, ρ' b = some e ∧ e.r = w.heap.size := by
              rcases hρ with h1 | h1
              · exact ⟨_, h1, rfl⟩
              · exact h1
            rcases hv' with ⟨_, rfl⟩ | ⟨l, cap, _, h2, _⟩
            · simp only [ev, htm]; rw [← he2]; exact .ptr he1
            · simp at h2
          · simp at hag
        · rename_i b l c htm
          split at hag
          · rename_i b' l' c' h' n' hx
            simp only [Bool.and_eq_true, natBeq, decide_eq_true_eq] at hag
            have hb' : b' = n := by
              obtain ⟨cc, el, cr, hput, _, hcr, hres⟩ := hL s.hw ⟨some d, op, ty, pos, after, g⟩ hops hfl _ h' n' hx
              rcases hres with ⟨hv1, _⟩ | ⟨l, cap, hcap, hv1, _⟩
              · simp at hv1
              · simp at hv1; exact hv1.1
            refine key b h' n' _ b' hx (by simp [blkOf, hoi, hfl, htm]) hag.2 hb' (fun ρ' hρ v' hv' => ?_)
            obtain ⟨e, he1, he2⟩ : ∃ e, ρ' b = some e ∧ e.r = w.heap.size := by
              rcases hρ with h1 | h1
              · exact ⟨_, h1, rfl⟩
              · exact h1
            rcases hv' with ⟨h2, _⟩ | ⟨l2, cap, hcap, h2, rfl⟩
            · simp at h2
            · simp only [Value.slice.injEq] at h2
              obtain ⟨_, rfl, rfl⟩ := h2
              simp only [ev, htm]; rw [← he2, hag.1.1, hag.1.2]; exact .slice he1 hcap
          · simp at hag
        · simp at hag
      · simp at hag
    · rename_i fk hne hfl
      exact hval fk hfl (by cases fk <;> first | rfl | exact (hne rfl).elim) hag
    · simp at hag
end
end Go.Am
end
section
set_option linter.unusedVariables false
namespace Go.Am
open Go Go.RowKit

section
variable {P : Program} {A : AP} {tm : T Value} {nt : Nat} {h : T Ob} {n B : Nat} {w0 : World} {ops : Array Oper} {pend rest : List Nat} {k' : List Item} {G : List Nat}

/-- the model does what AM has done ahead, till it comes to the operation at which AM stands -/
theorem DSt.catchAll (hE : ExecOk P A) (hF : FloatOk A) (hL : AllocOk P A) {s0 : Nat} {rest' : List Nat} (hrest : rest = s0 :: rest') (hmay : mayBegin ops.toList s0 rest' = true) (hag : ∀ i ∈ pend, again A ops.toList tm h n i = true) :
    ∀ (L : List Nat) (ρ : Rho) (X : List Nat) (rf : Frame) (w : World), DSt P A ρ tm nt h n B w0 ops pend rest X L k' rf w G →
      ∃ ρ' X' L' rf' w', (∀ cs, Steps P (lone rf cs w) (lone rf' cs w')) ∧ (∀ b e, ρ b = some e → ρ' b = some e) ∧ DSt P A ρ' tm nt h n B w0 ops pend rest X' (s0 :: L') k' rf' w' G ∧ SameFr rf rf' := by
  intro L
  induction L with
  | nil =>
    intro ρ X rf w s
    have : s0 ∈ ([] : List Nat) := (s.D.mem s0).2 (.inr (by rw [hrest]; simp))
    simp at this
  | cons i L ih =>
    intro ρ X rf w s
    by_cases hi : i ∈ X
    · obtain ⟨ρ1, rf1, w1, h1, h2, h3, h4, h5⟩ := s.catch1 hE hF hL hi (hag i (s.D.sub i hi))
      obtain ⟨ρ2, X2, L2, rf2, w2, g1, g2, g3, g4⟩ := ih ρ1 _ rf1 w1 h4
      exact ⟨ρ2, X2, L2, rf2, w2, fun cs => Steps.head (h1 cs) (g1 cs), fun b e hb => g2 b e (h2 b e hb), g3, h5.trans g4⟩
    · have hir : i ∈ rest := ((s.D.mem i).1 (by simp)).resolve_left hi
      have his : i = s0 := by
        rw [hrest] at hir
        rcases List.mem_cons.1 hir with he | hir'
        · exact he
        · exfalso
          have hm := (upTo_iff.1 hmay) i hir'
          simp only at hm
          have hs0 : s0 ∈ i :: L := (s.D.mem s0).2 (.inr (by rw [hrest]; simp))
          cases hn : natIn s0 (predsOf ops.toList i) with
          | true => exact s.D.ord [] i L rfl s0 ((natIn_iff _ _).1 hn) hs0
          | false =>
            simp only [hn, cond_false, List.any_eq_true] at hm
            obtain ⟨x, hx1, hx2⟩ := hm
            exact s.D.ord [] i L rfl x hx1 ((s.D.mem x).2 (.inr (by rw [hrest]; simp [(natIn_iff _ _).1 hx2])))
      subst his
      exact ⟨ρ, X, L, rf, w, fun cs => Steps.refl P _, fun _ _ h => h, s, SameFr.refl rf⟩

/-- .. or to the region's end -/
theorem DSt.catchEnd (hE : ExecOk P A) (hF : FloatOk A) (hL : AllocOk P A) (hrest : rest = []) (hag : ∀ i ∈ pend, again A ops.toList tm h n i = true) :
    ∀ (L : List Nat) (ρ : Rho) (X : List Nat) (rf : Frame) (w : World), DSt P A ρ tm nt h n B w0 ops pend rest X L k' rf w G →
      ∃ ρ' rf' w', (∀ cs, Steps P (lone rf cs w) (lone rf' cs w')) ∧ (∀ b e, ρ b = some e → ρ' b = some e) ∧ DSt P A ρ' tm nt h n B w0 ops pend rest [] [] k' rf' w' G ∧ SameFr rf rf' := by
  intro L
  induction L with
  | nil =>
    intro ρ X rf w s
    have hX : X = [] := by
      cases X with
      | nil => rfl
      | cons x X => have := (s.D.mem x).2 (.inl (by simp)); simp at this
    subst hX
    exact ⟨ρ, rf, w, fun cs => Steps.refl P _, fun _ _ h => h, s, SameFr.refl rf⟩
  | cons i L ih =>
    intro ρ X rf w s
    have hi : i ∈ X := ((s.D.mem i).1 (by simp)).resolve_right (by rw [hrest]; simp)
    obtain ⟨ρ1, rf1, w1, h1, h2, h3, h4, h5⟩ := s.catch1 hE hF hL hi (hag i (s.D.sub i hi))
    obtain ⟨ρ2, rf2, w2, g1, g2, g3, g4⟩ := ih ρ1 _ rf1 w1 h4
    exact ⟨ρ2, rf2, w2, fun cs => Steps.head (h1 cs) (g1 cs), fun b e hb => g2 b e (h2 b e hb), g3, h5.trans g4⟩

/-- AM's own part of what makes a block -/
def AllocA (A : AP) : Prop := ∀ (op : Op), floats A op = some .alloc → ∀ (tm : T Value) (h : T Ob) (n : Nat) (v : Value) (h' : T Ob) (n' : Nat), execX op A tm h n = .ok (.value v) h' n' →
  ∃ c el, h.put n (.cells c el 0 0) = some h' ∧ n' = n + 1 ∧ (v = .pointer (some ⟨n, 0, none⟩) ∨ ∃ l cap, v = .slice (some ⟨n, 0, none⟩) l cap)

theorem get_set_ev {tm tm' : T Value} {d : Nat} {v : Value} (hp : tm.put d v = some tm') (t : Nat) : ev tm' (.tmp t) = if t = d then v else ev tm (.tmp t) := by
  simp only [ev]
  rw [T.get_put tm d v tm' hp t]
  by_cases ht : t = d
  · simp [ht]
  · simp [ht]

/-- AM does one ahead -/
theorem DrawR.ahead {X L : List Nat} {i : Nat} {rest' : List Nat} (D : DrawR A ops pend (i :: rest') X L) (hfl : isFloat A ops.toList i = true) : DrawR A ops (i :: pend) rest' (i :: X) L where
  ok := D.ok
  sep := D.sep
  mem := fun j => by rw [D.mem j]; simp only [List.mem_cons]; constructor
                     · rintro (h | rfl | h)
                       · exact .inl (.inr h)
                       · exact .inl (.inl rfl)
                       · exact .inr h
                     · rintro ((rfl | h) | h)
                       · exact .inr (.inl rfl)
                       · exact .inl h
                       · exact .inr (.inr h)
  nodup := D.nodup
  xnodup := by rw [List.nodup_cons]; exact ⟨fun h => D.disj i h (by simp), D.xnodup⟩
  rnodup := (List.nodup_cons.1 D.rnodup).2
  disj := fun j hj => by
    rcases List.mem_cons.1 hj with rfl | hj
    · exact (List.nodup_cons.1 D.rnodup).1
    · exact fun h => D.disj j hj (by simp [h])
  sub := fun j hj => by
    rcases List.mem_cons.1 hj with rfl | hj
    · simp
    · simp [D.sub j hj]
  lt := D.lt
  ord := D.ord
  arest := fun l1 j l2 he => D.arest (i :: l1) j l2 (by simp [he])
  xpred := fun j hj q hq => by
    rcases List.mem_cons.1 hj with rfl | hj
    · exact fun h => D.arest [] j rest' rfl q hq (by simp [h])
    · exact fun h => D.xpred j hj q hq (by simp [h])
  fl := fun j hj => by
    rcases List.mem_cons.1 hj with rfl | hj
    · exact hfl
    · exact D.fl j hj

/-- a sequenced one is done in both -/
theorem DrawR.both {X L : List Nat} {i : Nat} {rest' pend' : List Nat} (D : DrawR A ops pend (i :: rest') X (i :: L)) (hsub : ∀ x ∈ X, x ∈ pend') : DrawR A ops pend' rest' X L where
  ok := D.ok
  sep := D.sep
  mem := fun j => by
    have hn := List.nodup_cons.1 D.nodup
    have hr := List.nodup_cons.1 D.rnodup
    have := D.mem j
    simp only [List.mem_cons] at this
    by_cases hji : j = i
    · subst hji
      constructor
      · intro h; exact absurd h hn.1
      · rintro (h | h)
        · exact absurd (by simp) (D.disj j h)
        · exact absurd h hr.1
    · simpa [hji] using this
  nodup := (List.nodup_cons.1 D.nodup).2
  xnodup := D.xnodup
  rnodup := (List.nodup_cons.1 D.rnodup).2
  disj := fun j hj h => D.disj j hj (by simp [h])
  sub := hsub
  lt := fun j hj => D.lt j (by simp [hj])
  ord := fun L1 j L2 he => D.ord (i :: L1) j L2 (by simp [he])
  arest := fun l1 j l2 he => D.arest (i :: l1) j l2 (by simp [he])
  xpred := fun j hj q hq h => D.xpred j hj q hq (by simp [h])
  fl := D.fl
end
end Go.Am
end
section
set_option linter.unusedVariables false
namespace Go.Am
open Go Go.RowKit

theorem filterMap_congr' {f g : Nat → Option Nat} : ∀ (l : List Nat), (∀ x ∈ l, f x = g x) → l.filterMap f = l.filterMap g
  | [], _ => rfl
  | x :: xs, h => by simp only [List.filterMap_cons, h x (by simp), filterMap_congr' xs fun y hy => h y (by simp [hy])]

section
variable {P : Program} {A : AP} {ρ : Rho} {tm : T Value} {nt : Nat} {h : T Ob} {n B : Nat} {w0 w : World} {f0 : FuncId} {cs : List Frame}
variable {fn : FuncId} {k : List It} {ds : List Deferred} {kd : CallKind} {ro : Option Nat} {fcs : List Fr} {rf : Frame} {rcs : List Frame} {g G : List Nat} {ops : Array Oper} {pend rest : List Nat}

/-- a state in a region that draws -/
theorem St.draw (s : St P A B w0 f0 ρ ⟨fn, tm, nt, .inDraw ops pend rest :: k, ds, .run, kd, ro⟩ fcs h n rf rcs w g G) :
    ∃ X L k', DSt P A ρ tm nt h n B w0 ops pend rest X L k' rf w G ∧ ItRs ρ k k' ∧ g = blks A ops tm X := by
  have hm := mode_run s.fr.mode
  have hb := s.fr.body
  generalize hy : rf.todo = ys at hb
  generalize hx : (It.inDraw ops pend rest :: k) = xs at hb
  cases hb with
  | plain h1 h2 =>
    subst hx
    cases h1 with
    | cons h3 h4 => cases h3
  | @draw ops' pend' rest' X L k2 k' h1 h2 h3 h4 =>
    cases hx
    exact ⟨X, L, k', ⟨s.hw, h2, h3, hy, hm, s.g, s.gl, h4⟩, h1, rfl⟩

/-- and back -/
theorem DSt.st {X L : List Nat} {k' : List Item} {rf1 : Frame} {w1 : World} {ρ1 : Rho} (he : ∀ b e, ρ b = some e → ρ1 b = some e) (hsame : SameFr rf rf1) (s : St P A B w0 f0 ρ ⟨fn, tm, nt, .inDraw ops pend rest :: k, ds, .run, kd, ro⟩ fcs h n rf rcs w g G)
    (d : DSt P A ρ1 tm nt h n B w0 ops pend rest X L k' rf1 w1 G) (hk : ItRs ρ k k') :
    St P A B w0 f0 ρ1 ⟨fn, tm, nt, .inDraw ops pend rest :: k, ds, .run, kd, ro⟩ fcs h n rf1 rcs w1 (blks A ops tm X) G := by
  obtain ⟨e1, e2, e3, e4, e5⟩ := hsame
  refine ⟨d.hw, ⟨by rw [e1]; exact s.fr.fn, by rw [e2]; exact s.fr.kind, ?_, by rw [e3]; exact s.fr.ds.ext he, by rw [e4]; exact s.fr.mode.ext he, by rw [e5]; exact s.fr.ro.ext he⟩, s.cs.ext he, d.g, d.gl, by rw [bot_upd rcs e1, s.bot]⟩
  rw [d.todo]
  exact .draw (hk.ext he) d.D d.ht d.dlt

theorem setDst_eq (d : Option Tmp) (v : Value) (kk : T Value → R) : setDst tm nt d v kk = match d with
    | some d => if d < nt then (match tm.put d v with | some tm' => kk tm' | none => .fail 200) else .fail 201
    | none => kk tm := by
  cases d with
  | none => rfl
  | some d =>
    simp only [setDst, natBlt, Bool.cond_decide, T.setK_eq]
    by_cases hd : d < nt
    · simp only [if_pos hd]; cases tm.put d v <;> rfl
    · simp only [if_neg hd]

theorem blkOf_congr {tm' : T Value} {i : Nat} (hd : ∀ o d, ops.toList[i]? = some o → o.dst = some d → tm'.get d = tm.get d) : blkOf A ops tm' i = blkOf A ops tm i := by
  unfold blkOf
  cases ho : ops[i]? with
  | none => rfl
  | some o =>
    have ho' : ops.toList[i]? = some o := by simpa using ho
    simp only
    split
    · split
      · rename_i d hod
        rw [hd o d ho' hod]
      · rfl
    · rfl

/-- AM goes ahead: the model stays where it is -/
theorem St.ahead {i : Nat} {o : Oper} (s : St P A B w0 f0 ρ ⟨fn, tm, nt, .inDraw ops pend (i :: rest) :: k, ds, .run, kd, ro⟩ fcs h n rf rcs w g G) (ho : ops.toList[i]? = some o) (hfl : isFloat A ops.toList i = true)
    {tm' : T Value} {v : Value} (htm : (o.dst = none ∧ tm' = tm) ∨ ∃ d, o.dst = some d ∧ d < nt ∧ tm.put d v = some tm') {h' : T Ob} {n' : Nat} (hw : WR P ρ h' n' B w0 w) (hn : n ≤ n')
    (hblk : blkOf A ops tm' i = none ∨ (blkOf A ops tm' i = some n ∧ n' = n + 1)) :
    Goal P A B w0 f0 cs rf rcs w (.next ⟨⟨fn, tm', nt, .inDraw ops (i :: pend) rest :: k, ds, .run, kd, ro⟩, fcs, h', n'⟩) := by
  obtain ⟨X, L, k', d, hk, rfl⟩ := s.draw
  have hiL : i ∈ L := (d.D.mem i).2 (.inr (by simp))
  have hir : i ∈ List.range ops.size := List.mem_range.2 (d.D.lt i hiL)
  have hiX : i ∉ X := fun hx => d.D.disj i hx (by simp)
  -- what the others have written stays
  have hkeep : ∀ x ∈ X, ∀ p e, ops.toList[x]? = some p → p.dst = some e → tm'.get e = tm.get e := by
    intro x hx p e hp he
    rcases htm with ⟨_, rfl⟩ | ⟨d', hd', _, hput⟩
    · rfl
    · have hxr : x ∈ List.range ops.size := List.mem_range.2 (d.D.lt x ((d.D.mem x).2 (.inl hx)))
      have hne : i ≠ x := by rintro rfl; exact hiX hx
      have := (drawOk_apart d.D.sep hir hxr hne ho hp he).1
      exact get_put_ne hput (by rintro rfl; exact this hd')
  have hblks : blks A ops tm' (i :: X) = (blkOf A ops tm' i).toList ++ blks A ops tm X := by
    unfold blks
    have : X.filterMap (blkOf A ops tm') = X.filterMap (blkOf A ops tm) := filterMap_congr' X fun x hx => blkOf_congr fun p e hp he => hkeep x hx p e hp he
    rw [← this]
    cases hb : blkOf A ops tm' i <;> simp [List.filterMap_cons, hb]
  refine ⟨rf, rcs, w, Steps.refl P _, ⟨ρ, blks A ops tm' (i :: X), G, hw, ⟨s.fr.fn, s.fr.kind, ?_, s.fr.ds, s.fr.mode, s.fr.ro⟩, s.cs, ?_, s.gl⟩, s.bot⟩
  · show BodyR A ρ tm' nt rf.tmps (.inDraw ops (i :: pend) rest :: k) rf.todo _
    rw [d.todo]
    refine .draw hk (d.D.ahead hfl) ⟨d.ht.1, fun t ht => ?_⟩ ?_
    · have htX : t ∉ dsts ops X := fun hm => ht (by
        obtain ⟨x, hx, p, hp, hpd⟩ := dsts_mem.1 hm
        exact dsts_mem.2 ⟨x, by simp [hx], p, hp, hpd⟩)
      have e : ev tm' (.tmp t) = ev tm (.tmp t) := by
        rcases htm with ⟨_, rfl⟩ | ⟨d', hd', _, hput⟩
        · rfl
        · rw [get_set_ev hput t, if_neg]
          rintro rfl
          exact ht (dsts_mem.2 ⟨i, by simp, o, ho, hd'⟩)
      rw [e]; exact d.ht.2 t htX
    · intro e he
      obtain ⟨x, hx, p, hp, hpd⟩ := dsts_mem.1 he
      rcases List.mem_cons.1 hx with rfl | hx
      · rw [ho] at hp; cases hp
        rcases htm with ⟨hnone, _⟩ | ⟨d', hd', hlt, _⟩
        · rw [hnone] at hpd; simp at hpd
        · rw [hd'] at hpd; cases hpd; exact hlt
      · exact d.dlt e (dsts_mem.2 ⟨x, hx, p, hp, hpd⟩)
  · show GOk ρ n' (blks A ops tm' (i :: X) ++ G)
    rw [hblks]
    rcases hblk with hb | ⟨hb, rfl⟩
    · rw [hb]
      exact ⟨by simpa using d.g.1, fun b hm => by obtain ⟨p, q⟩ := d.g.2 b (by simpa using hm); exact ⟨p, by omega⟩⟩
    · rw [hb]
      refine ⟨?_, fun b hm => ?_⟩
      · simp only [Option.toList_some, List.cons_append, List.nil_append, List.nodup_cons]
        exact ⟨fun hm => by have := (d.g.2 n hm).2; omega, d.g.1⟩
      · simp only [Option.toList_some, List.cons_append, List.nil_append, List.mem_cons] at hm
        rcases hm with rfl | hm
        · exact ⟨(s.hw.fresh b (Nat.le_refl _)).1, by omega⟩
        · obtain ⟨p, q⟩ := d.g.2 b hm; exact ⟨p, by omega⟩

theorem g_float (hF : FloatOk A) (hAl : AllocA A) {i : Nat} {dst : Option Tmp} {op : Op} {ty : TypeId} {pos : String} {after : Array Edge} {gd : Option (Nat × Bool)} {fk : Fk} (ho : ops.toList[i]? = some ⟨dst, op, ty, pos, after, gd⟩) (hfk : floats A op = some fk) {wb : Bool}
    (s : St P A B w0 f0 ρ ⟨fn, tm, nt, .inDraw ops pend (i :: rest) :: k, ds, .run, kd, ro⟩ fcs h n rf rcs w g G) :
    Goal P A B w0 f0 cs rf rcs w (gFloat ops pend i rest dst op (isAlloc fk) wb A fn tm nt k ds kd ro fcs h n) := by
  have hfl : isFloat A ops.toList i = true := by simp [isFloat, ho, hfk]
  have hoi : ops[i]? = some ⟨dst, op, ty, pos, after, gd⟩ := by simpa using ho
  unfold gFloat
  cases wb with
  | false =>
    simp only [cond_false, setDst_eq]
    cases dst with
    | none =>
      exact s.ahead ho hfl (.inl ⟨rfl, rfl⟩) (v := undefV) s.hw (Nat.le_refl _) (.inl (by simp only [blkOf, hoi]; split <;> rfl))
    | some d =>
      simp only
      split
      · rename_i hlt
        split
        · rename_i tm' hput
          refine s.ahead ho hfl (.inr ⟨d, rfl, hlt, hput⟩) s.hw (Nat.le_refl _) (.inl ?_)
          have hg := get_put_self hput
          simp only [blkOf, hoi, hg]
          split <;> rfl
        · exact Goal.fail
      · exact Goal.fail
  | true =>
    simp only [cond_true]
    split
    · rename_i v h' n' hx
      cases hc : (isAlloc fk || Nat.beq n n') with
      | false => simp only [cond_false]; exact Goal.fail
      | true =>
        simp only [cond_true, setDst_eq]
        -- the heap behind it
        have hheap : ∃ (hw : WR P ρ h' n' B w0 w), n ≤ n' ∧ ((h' = h ∧ n' = n ∧ isAlloc fk = false) ∨ (isAlloc fk = true ∧ n' = n + 1 ∧ (v = .pointer (some ⟨n, 0, none⟩) ∨ ∃ l cap, v = .slice (some ⟨n, 0, none⟩) l cap))) := by
          cases ha : isAlloc fk with
          | false =>
            obtain ⟨rfl, rfl⟩ := hF op fk hfk ha tm h n v h' n' hx
            exact ⟨s.hw, Nat.le_refl _, .inl ⟨rfl, rfl, rfl⟩⟩
          | true =>
            have hfa : fk = .alloc := by cases fk <;> simp_all [isAlloc]
            subst hfa
            obtain ⟨c, el, hput, hn, hv⟩ := hAl op hfk tm h n v h' n' hx
            subst hn
            exact ⟨s.hw.own hput, by omega, .inr ⟨rfl, rfl, hv⟩⟩
        obtain ⟨hw, hn, hcase⟩ := hheap
        have hblk : ∀ tm', (dst = none ∨ ∃ d, dst = some d ∧ tm'.get d = some v) → blkOf A ops tm' i = none ∨ (blkOf A ops tm' i = some n ∧ n' = n + 1) := by
          intro tm' hd
          rcases hcase with ⟨_, _, hna⟩ | ⟨hal, hn1, hv⟩
          · left
            simp only [blkOf, hoi, hfk]
            cases fk <;> first | rfl | simp [isAlloc] at hna
          · have hfa : fk = .alloc := by cases fk <;> simp_all [isAlloc]
            subst hfa
            rcases hd with rfl | ⟨d, rfl, hg⟩
            · left; simp only [blkOf, hoi, hfk]
            · right
              refine ⟨?_, hn1⟩
              rcases hv with rfl | ⟨l, cap, rfl⟩ <;> simp [blkOf, hoi, hfk, hg]
        cases dst with
        | none => exact s.ahead ho hfl (.inl ⟨rfl, rfl⟩) (v := v) hw hn (hblk tm (.inl rfl))
        | some d =>
          simp only
          split
          · rename_i hlt
            split
            · rename_i tm' hput
              exact s.ahead ho hfl (.inr ⟨d, rfl, hlt, hput⟩) hw hn (hblk tm' (.inr ⟨d, rfl, get_put_self hput⟩))
            · exact Goal.fail
          · exact Goal.fail
    · exact Goal.fail

/-- the end of a region that draws -/
theorem g_drawEnd (hE : ExecOk P A) (hF : FloatOk A) (hL : AllocOk P A) (s : St P A B w0 f0 ρ ⟨fn, tm, nt, .inDraw ops pend [] :: k, ds, .run, kd, ro⟩ fcs h n rf rcs w g G) :
    Goal P A B w0 f0 cs rf rcs w (gDrawEnd ops pend A fn tm nt k ds kd ro fcs h n) := by
  unfold gDrawEnd
  cases hag : upTo (again A ops.toList tm h n) pend with
  | false => exact Goal.fail
  | true =>
    simp only [cond_true]
    obtain ⟨X, L, k', d, hk, rfl⟩ := s.draw
    obtain ⟨ρ1, rf1, w1, hst, he, d1, hsame⟩ := d.catchEnd hE hF hL rfl (upTo_iff.1 hag)
    refine Goal.steps (rcs' := rcs) (hst (rcs ++ cs)) ?_
    have s1 := DSt.st he hsame s d1 hk
    have hs : step P (lone rf1 (rcs ++ cs) w1) = .next (lone { rf1 with todo := k' } (rcs ++ cs) w1) :=
      step_lone_go (by simp [stepG, stepG.exec, d1.todo, d1.mode])
    refine s1.top hs (g' := []) ⟨s1.fr.fn, s1.fr.kind, .plain (hk.ext he) ?_, s1.fr.ds, s1.fr.mode, s1.fr.ro⟩ ?_ rfl
    · simpa [dsts] using d1.ht
    · have := d1.g; simpa [blks] using this
end
end Go.Am
end
section
set_option linter.unusedVariables false
namespace Go.Am
open Go Go.RowKit

theorem drop_cons {α : Type} {l : List α} {k : Nat} {o : α} {rest : List α} (h : o :: rest = l.drop k) : l[k]? = some o ∧ rest = l.drop (k + 1) := by
  have h1 : (l.drop k)[0]? = some o := by rw [← h]; rfl
  have h2 : (l.drop k).drop 1 = rest := by rw [← h]; rfl
  rw [List.getElem?_drop] at h1
  rw [List.drop_drop] at h2
  exact ⟨by simpa using h1, h2.symm⟩
theorem range_drop {n k : Nat} (h : k < n) : (List.range n).drop k = k :: (List.range n).drop (k + 1) := by
  rw [List.drop_eq_getElem_cons (by simpa using h)]
  simp

section
variable {P : Program} {A : AP} {ρ ρ' : Rho}

/-- a temporary written in both -/
theorem TRx.set {D : List Tmp} {tm tm' : T Value} {nt : Nat} {tr : Array Value} (he : ∀ b e, ρ b = some e → ρ' b = some e) (ht : TRx ρ D tm nt tr) {d : Tmp} {v v' : Value} (hv : VR ρ' v v') (hlt : d < nt) (hput : tm.put d v = some tm') : TRx ρ' D tm' nt (tr.setIfInBounds d v') := by
  refine ⟨by simp [ht.1], fun t hnt => ?_⟩
  rw [get_set_ev hput t]
  by_cases htd : t = d
  · subst htd
    have : t < tr.size := by rw [ht.1]; exact hlt
    have e : (tr.setIfInBounds t v').getD t Go.undef = v' := by simp [Array.getD, this]
    rw [e, if_pos rfl]; exact hv
  · have e : (tr.setIfInBounds d v').getD t Go.undef = tr.getD t Go.undef := by
      simp only [Array.getD_eq_getD_getElem?]
      rw [Array.getElem?_setIfInBounds_ne (Ne.symm htd)]
    rw [e, if_neg htd]
    exact (ht.2 t hnt).ext he

/-- a value comes to a frame that waits for it -/
theorem fin (he : ∀ b e, ρ b = some e → ρ' b = some e) {fr : Fr} {rf : Frame} {g : List Nat} (hf : FrR A ρ fr rf g) (hhd : Hd fr.todo rf.todo) {v v' : Value} (hv : VR ρ' v v') (fcs : List Fr) (h : T Ob) (n : Nat) :
    (∃ why, finishA fr fcs h n v = .fail why) ∨ ∃ fr', finishA fr fcs h n v = .next ⟨fr', fcs, h, n⟩ ∧ FrR A ρ' fr' (rf.finish v') g ∧ (rf.finish v').fn = rf.fn := by
  obtain ⟨fn, tm, nt, todo, ds, md, kd, ro⟩ := fr
  have hb := hf.body
  have hfn := hf.fn
  have hkd := hf.kind
  have hds := hf.ds.ext he
  have hmd := hf.mode.ext he
  have hro := hf.ro.ext he
  simp only at hb hfn hkd hds hmd hro hhd
  generalize hy : rf.todo = ys at hb hhd
  cases hb with
  | plain h1 h2 =>
    cases h1 with
    | nil => exact .inl ⟨_, rfl⟩
    | @cons x y xs ys2 h3 h4 =>
      cases h3 with
      | @inRegion ops kk hok =>
        generalize hl : ops.toList.drop kk = l
        cases l with
        | nil => exact .inl ⟨_, rfl⟩
        | cons o rest =>
          obtain ⟨ho, hrest⟩ := drop_cons hl.symm
          have hlt : kk < ops.size := by
            rcases Nat.lt_or_ge kk ops.toList.length with h5 | h5
            · simpa using h5
            · rw [List.getElem?_eq_none h5] at ho; simp at ho
          rw [range_drop hlt] at hy
          rw [finish_region hy ho]
          simp only [finishA, setDst_eq]
          cases hod : o.dst with
          | none =>
            refine .inr ⟨_, rfl, ⟨hfn, hkd, ?_, hds, hmd, hro⟩, trivial⟩
            simp only
            rw [hrest]
            exact .plain (.cons (.inRegion hok) (h4.ext he)) (h2.ext he)
          | some d =>
            simp only
            by_cases hlt' : d < nt
            · simp only [if_pos hlt']
              cases hput : tm.put d v with
              | none => exact .inl ⟨_, rfl⟩
              | some tm' =>
                refine .inr ⟨_, rfl, ⟨hfn, hkd, ?_, hds, hmd, hro⟩, trivial⟩
                simp only
                rw [hrest]
                exact .plain (.cons (.inRegion hok) (h4.ext he)) (h2.set he hv hlt' hput)
            · simp only [if_neg hlt']; exact .inl ⟨_, rfl⟩
      | @inRangeFunc l e hle =>
        refine .inr ⟨_, rfl, ⟨?_, ?_, ?_, ?_, ?_, ?_⟩, ?_⟩
        all_goals simp only [Frame.finish, hy]
        · exact hfn
        · exact hkd
        · exact .plain (.cons (.endRangeFunc (he _ _ hle)) (h4.ext he)) (h2.ext he)
        · exact hds
        · exact hmd
        · exact hro
      | code => exact .inl ⟨_, rfl⟩
      | inBlock => exact .inl ⟨_, rfl⟩
      | inLoop => exact .inl ⟨_, rfl⟩
      | endRangeFunc => exact .inl ⟨_, rfl⟩
      | beginRound => exact .inl ⟨_, rfl⟩
  | @draw ops pend rest X L k k' h1 D h3 h4 =>
    cases hhd with
    | plain hno => exact absurd rfl (hno _ _ _ _)
    | @draw _ _ i rest' L' _ _ =>
      have hlt : i < ops.size := D.lt i (by simp)
      have ho : ops.toList[i]? = some (ops[i]'hlt) := by simp [hlt]
      generalize ops[i]'hlt = o at ho
      rw [finish_region hy ho]
      have hiX : i ∉ X := fun hx => D.disj i hx (by simp)
      have hD := D.both (fun x hx => D.sub x hx)
      have hne : ∀ x ∈ X, ∀ p e, ops.toList[x]? = some p → p.dst = some e → o.dst ≠ some e := fun x hx p e hp hpe => (D.sepUse hx (by rintro rfl; exact hiX hx) ho hp hpe).1
      simp only [finishA, lnth_eq, ho, setDst_eq]
      cases hod : o.dst with
      | none =>
        refine .inr ⟨_, rfl, ⟨hfn, hkd, ?_, hds, hmd, hro⟩, trivial⟩
        simp only
        exact .draw (h1.ext he) hD (h3.ext he) h4
      | some d =>
        simp only
        by_cases hlt' : d < nt
        · simp only [if_pos hlt']
          cases hput : tm.put d v with
          | none => exact .inl ⟨_, rfl⟩
          | some tm' =>
            refine .inr ⟨_, rfl, ⟨hfn, hkd, ?_, hds, hmd, hro⟩, trivial⟩
            simp only
            have hblks : blks A ops tm X = blks A ops tm' X := filterMap_congr' X fun x hx => (blkOf_congr fun p e hp hpe => get_put_ne hput (by rintro rfl; exact hne x hx p _ hp hpe hod)).symm
            rw [hblks]
            exact .draw (h1.ext he) hD (h3.set he hv hlt' hput) h4
        · simp only [if_neg hlt']; exact .inl ⟨_, rfl⟩
end
end Go.Am
end
