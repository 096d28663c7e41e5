/- The relation of the machine to the model, and its operations, part 1. -/
import Derived.Test.YtbofhnjjlbjmcaaGreatDoorAmA
import Derived.Below
import Derived.Calls
set_option linter.unusedVariables false
set_option linter.unusedSimpArgs false
section
namespace Go.Am
open Go Go.RowKit

/-- what a block of AM is in the model: a block, how many cells it has, how many of them an element has -/
structure Ent where
  r : Nat
  cells : Nat
  s : Nat
abbrev Rho := Nat → Option Ent

inductive VR (ρ : Rho) : Value → Value → Prop
  | bool (b : Bool) : VR ρ (.bool b) (.bool b)
  | int (k : IntKind) (n : Int) : VR ρ (.int k n) (.int k n)
  | float (k : FloatKind) (b : Nat) : VR ρ (.float k b) (.float k b)
  | complex (k : FloatKind) (a b : Nat) : VR ρ (.complex k a b) (.complex k a b)
  | string (s : ByteArray) : VR ρ (.string s) (.string s)
  | nilPtr : VR ρ (.pointer none) (.pointer none)
  | ptr {b o : Nat} {e : Ent} : ρ b = some e → VR ρ (.pointer (some ⟨b, o, none⟩)) (.pointer (some ⟨e.r, o, none⟩))
  | nilSlice (l c : Nat) : VR ρ (.slice none l c) (.slice none l c)
  | slice {b o l c : Nat} {e : Ent} : ρ b = some e → c < LOOSE → VR ρ (.slice (some ⟨b, o, none⟩) l c) (.slice (some ⟨e.r, o, none⟩) l c)
  | loose {b o o' l c c' : Nat} {e : Ent} : ρ b = some e → l ≤ c → c ≤ c' → c < LOOSE → (c' ≠ 0 → o' = o ∧ o' + c' * e.s = e.cells) →
      VR ρ (.slice (some ⟨b, o, none⟩) l (c + LOOSE * (e.s + 1))) (.slice (some ⟨e.r, o', none⟩) l c')
  | nilMap : VR ρ (.map none) (.map none)
  | nilChan : VR ρ (.chan none) (.chan none)
  | map {b : Nat} {e : Ent} : ρ b = some e → VR ρ (.map (some b)) (.map (some e.r))
  | func (f : FuncId) {as bs as' bs' : Array Value} : as.size = as'.size → (∀ (i : Nat) (x y : Value), as[i]? = some x → as'[i]? = some y → VR ρ x y) →
      bs.size = bs'.size → (∀ (i : Nat) (x y : Value), bs[i]? = some x → bs'[i]? = some y → VR ρ x y) → VR ρ (.func (.func f) as bs) (.func (.func f) as' bs')
  | yield {l : Nat} {e : Ent} : ρ l = some e → VR ρ (.func (.yield l) #[] #[]) (.func (.yield e.r) #[] #[])
  | nilFunc : VR ρ .nilFunc .nilFunc
  | iface (t : TypeId) {v v' : Value} : VR ρ v v' → VR ρ (.iface t v) (.iface t v')
  | nilIface : VR ρ .nilIface .nilIface
  | agg {as bs : Array Value} : as.size = bs.size → (∀ (i : Nat) (x y : Value), as[i]? = some x → bs[i]? = some y → VR ρ x y) → VR ρ (.agg as) (.agg bs)
  | tuple {as bs : Array Value} : as.size = bs.size → (∀ (i : Nat) (x y : Value), as[i]? = some x → bs[i]? = some y → VR ρ x y) → VR ρ (.tuple as) (.tuple bs)

/-- lists of values -/
def VRs (ρ : Rho) (xs ys : List Value) : Prop := xs.length = ys.length ∧ ∀ (i : Nat) (x y : Value), xs[i]? = some x → ys[i]? = some y → VR ρ x y

/-- a temporary's tree -/
def TR (ρ : Rho) (tm : T Value) (nt : Nat) (tr : Array Value) : Prop := tr.size = nt ∧ ∀ t, VR ρ (ev tm (.tmp t)) (tr.getD t Go.undef)

def DR (ρ : Rho) (d d' : Deferred) : Prop :=
  match d.target, d'.target with
  | .fn (.func f) c, .fn (.func g) c' => f = g ∧ VRs ρ c.toList c'.toList ∧ VRs ρ d.args.toList d'.args.toList
  | .collected b, .collected r => (∃ e, ρ b = some e ∧ e.r = r) ∧ d.args.toList = [] ∧ d'.args.toList = []
  | _, _ => False

def ERs (ρ : Rho) (xs ys : List MapEntry) : Prop := xs.length = ys.length ∧ ∀ (i : Nat) (x y : MapEntry), xs[i]? = some x → ys[i]? = some y → VR ρ x.key y.key ∧ VR ρ x.val y.val ∧ x.born = y.born

def Ob.dead : Ob → Bool
  | .deferred none => true
  | _ => false

/-- an object of AM's heap, and the model's -/
def OR (P : Program) (ρ : Rho) (heap : Array Obj) (e : Ent) : Ob → Prop
  | .cells c el lo hi => ∃ cr flo fhi, heap[e.r]? = some (.cells cr el (flo, fhi)) ∧ cr.size = e.cells ∧ P.cellsOf el = e.s ∧ c.length ≤ cr.size ∧
      (∀ (i : Nat) (x : Value), c[i]? = some x → ∃ y, cr[i]? = some y ∧ VR ρ x y) ∧ flo ≤ fhi ∧ (∀ i, flo ≤ i → i < fhi → lo ≤ i ∧ (i < hi ∨ hi = LOOSE))
  | .map es clock => ∃ er, heap[e.r]? = some (.map er clock) ∧ ERs ρ es er.toList
  | .stringIter s p => heap[e.r]? = some (.stringIter s p)
  | .mapIter m since seen st => ∃ m', heap[e.r]? = some (.mapIter m' since ⟨seen⟩ st) ∧ VR ρ (.map m) (.map m')
  | .loop st pend fn tm nt ps asg body d => ∃ tr e', heap[e.r]? = some (.loop { state := st, pending := pend, fn := fn, tmps := tr, params := ps, assign := asg, body := body, defers := e'.r }) ∧ TR ρ tm nt tr ∧ ρ d = some e' ∧ codeOk asg = true ∧ codeOk body = true ∧ (∀ c, pend = some c → codeOk c = true)
  | .deferred none => True
  | .deferred (some []) => heap[e.r]? = some (.deferred (some []))
  | .deferred (some (_ :: _)) => False

/-- the worlds -/
structure WR (P : Program) (ρ : Rho) (h : T Ob) (n : Nat) (B : Nat) (w0 w : World) : Prop where
  live : ∀ b ob, h.get b = some ob → ∀ e, ρ b = some e → OR P ρ w.heap e ob
  fresh : ∀ b, n ≤ b → ρ b = none ∧ h.get b = none
  rng : ∀ b e ob, ρ b = some e → h.get b = some ob → B ≤ e.r ∧ e.r < w.heap.size
  inj : ∀ b1 b2 o1 o2 e1 e2, h.get b1 = some o1 → h.get b2 = some o2 → o1.dead = false → o2.dead = false → ρ b1 = some e1 → ρ b2 = some e2 → e1.r = e2.r → b1 = b2
  below : Below B w0 w
  base : B ≤ w.heap.size

/-- one relation goes on in another one; what is old stays as it is -/
def Ext (ρ ρ' : Rho) (n : Nat) : Prop := (∀ b e, ρ b = some e → ρ' b = some e) ∧ ∀ b, b < n → ρ' b = ρ b

theorem Ext.refl (ρ : Rho) (n : Nat) : Ext ρ ρ n := ⟨fun _ _ h => h, fun _ _ => rfl⟩
theorem Ext.trans {ρ ρ' ρ'' : Rho} {n n' : Nat} (h : Ext ρ ρ' n) (h' : Ext ρ' ρ'' n') (hn : n ≤ n') : Ext ρ ρ'' n :=
  ⟨fun b e hb => h'.1 b e (h.1 b e hb), fun b hb => by rw [h'.2 b (by omega), h.2 b hb]⟩

theorem VR.ext {ρ ρ' : Rho} (he : ∀ b e, ρ b = some e → ρ' b = some e) {x y : Value} (h : VR ρ x y) : VR ρ' x y := by
  induction h with
  | bool b => exact .bool b
  | int k n => exact .int k n
  | float k b => exact .float k b
  | complex k a b => exact .complex k a b
  | string s => exact .string s
  | nilPtr => exact .nilPtr
  | ptr h => exact .ptr (he _ _ h)
  | nilSlice l c => exact .nilSlice l c
  | slice h hc => exact .slice (he _ _ h) hc
  | loose h a b c d => exact .loose (he _ _ h) a b c d
  | nilMap => exact .nilMap
  | nilChan => exact .nilChan
  | map h => exact .map (he _ _ h)
  | func f h1 _ h3 _ ih1 ih2 => exact .func f h1 ih1 h3 ih2
  | yield h => exact .yield (he _ _ h)
  | nilFunc => exact .nilFunc
  | iface t _ ih => exact .iface t ih
  | nilIface => exact .nilIface
  | agg h _ ih => exact .agg h ih
  | tuple h _ ih => exact .tuple h ih

theorem VRs.ext {ρ ρ' : Rho} (he : ∀ b e, ρ b = some e → ρ' b = some e) {x y : List Value} (h : VRs ρ x y) : VRs ρ' x y :=
  ⟨h.1, fun i a b ha hb => (h.2 i a b ha hb).ext he⟩
theorem TR.ext {ρ ρ' : Rho} (he : ∀ b e, ρ b = some e → ρ' b = some e) {tm : T Value} {nt : Nat} {tr : Array Value} (h : TR ρ tm nt tr) : TR ρ' tm nt tr :=
  ⟨h.1, fun t => (h.2 t).ext he⟩
theorem DR.ext {ρ ρ' : Rho} (he : ∀ b e, ρ b = some e → ρ' b = some e) {d d' : Deferred} (h : DR ρ d d') : DR ρ' d d' := by
  unfold DR at h ⊢
  split at h
  · exact ⟨h.1, h.2.1.ext he, h.2.2.ext he⟩
  · obtain ⟨⟨e, h1, h2⟩, h3⟩ := h; exact ⟨⟨e, he _ _ h1, h2⟩, h3⟩
  · exact h.elim
theorem ERs.ext {ρ ρ' : Rho} (he : ∀ b e, ρ b = some e → ρ' b = some e) {x y : List MapEntry} (h : ERs ρ x y) : ERs ρ' x y :=
  ⟨h.1, fun i a b ha hb => let ⟨p, q, r⟩ := h.2 i a b ha hb; ⟨p.ext he, q.ext he, r⟩⟩
theorem OR.ext {P : Program} {ρ ρ' : Rho} (he : ∀ b e, ρ b = some e → ρ' b = some e) {heap heap' : Array Obj} {e : Ent} {ob : Ob} (hh : heap'[e.r]? = heap[e.r]?) (h : OR P ρ heap e ob) : OR P ρ' heap' e ob := by
  cases ob with
  | cells c el lo hi =>
    obtain ⟨cr, flo, fhi, h1, h2, h3, h4, h5, h6, h7⟩ := h
    exact ⟨cr, flo, fhi, by rw [hh, h1], h2, h3, h4, fun i x hx => let ⟨y, hy, hv⟩ := h5 i x hx; ⟨y, hy, hv.ext he⟩, h6, h7⟩
  | map es clock => obtain ⟨er, h1, h2⟩ := h; exact ⟨er, by rw [hh, h1], h2.ext he⟩
  | stringIter s p => show _ = _; rw [hh]; exact h
  | mapIter m since seen st => obtain ⟨m', h1, h2⟩ := h; exact ⟨m', by rw [hh, h1], h2.ext he⟩
  | loop st pend fn tm nt ps asg body d => obtain ⟨tr, e', h1, h2, h3⟩ := h; exact ⟨tr, e', by rw [hh, h1], h2.ext he, he _ _ h3.1, h3.2⟩
  | deferred calls =>
    match calls, h with
    | none, _ => trivial
    | some [], h => show _ = _; rw [hh]; exact h
end Go.Am
end
section
namespace Go.Am
open Go Go.RowKit

theorem get_put_self {α : Type} {t t' : T α} {n : Nat} {x : α} (h : t.put n x = some t') : t'.get n = some x := by rw [T.get_put t n x t' h]; simp
theorem get_put_ne {α : Type} {t t' : T α} {n m : Nat} {x : α} (h : t.put n x = some t') (hm : m ≠ n) : t'.get m = t.get m := by rw [T.get_put t n x t' h]; simp [hm]

section
variable {P : Program} {ρ : Rho} {h h' : T Ob} {n B : Nat} {w0 w w' : World}

theorem WR.lt (hw : WR P ρ h n B w0 w) {b : Nat} {e : Ent} (hb : ρ b = some e) : b < n := by
  rcases Nat.lt_or_ge b n with hl | hg
  · exact hl
  · rw [(hw.fresh b hg).1] at hb; exact absurd hb (by simp)
theorem WR.get_lt (hw : WR P ρ h n B w0 w) {b : Nat} {ob : Ob} (hb : h.get b = some ob) : b < n := by
  rcases Nat.lt_or_ge b n with hl | hg
  · exact hl
  · rw [(hw.fresh b hg).2] at hb; exact absurd hb (by simp)

/-- a relation with one block more -/
def Rho.add (ρ : Rho) (n : Nat) (e : Ent) : Rho := fun b => if b = n then some e else ρ b
theorem Rho.add_self (ρ : Rho) (n : Nat) (e : Ent) : ρ.add n e n = some e := by simp [Rho.add]
theorem Rho.add_ne (ρ : Rho) {n b : Nat} (e : Ent) (hb : b ≠ n) : ρ.add n e b = ρ b := by simp [Rho.add, hb]
theorem WR.ext_add (hw : WR P ρ h n B w0 w) (e : Ent) : Ext ρ (ρ.add n e) n :=
  ⟨fun b x hb => by rw [Rho.add_ne _ _ (by have := hw.lt hb; omega)]; exact hb, fun b hb => Rho.add_ne _ _ (by omega)⟩

theorem OR.heap {e : Ent} {ob : Ob} {heap heap' : Array Obj} (hh : heap'[e.r]? = heap[e.r]?) (ho : OR P ρ heap e ob) : OR P ρ heap' e ob :=
  ho.ext (fun _ _ h => h) hh

/-- only what is no memory has changed -/
theorem WR.same (hw : WR P ρ h n B w0 w) (hh : w'.heap = w.heap) (ho : w'.os = w.os) (ht : w'.tape = w.tape) (hp : w'.output = w.output) : WR P ρ h n B w0 w' where
  live := by rw [hh]; exact hw.live
  fresh := hw.fresh
  rng := by rw [hh]; exact hw.rng
  inj := hw.inj
  below := ⟨by rw [ho]; exact hw.below.os, by rw [ht]; exact hw.below.tape, by rw [hp]; exact hw.below.output, by rw [hh]; exact hw.below.size, by rw [hh]; exact hw.below.block⟩
  base := by rw [hh]; exact hw.base

/-- a new block in both -/
theorem WR.new (hw : WR P ρ h n B w0 w) {ob : Ob} {o : Obj} {e : Ent} (he : e.r = w.heap.size) (hp : h.put n ob = some h')
    (hor : OR P (ρ.add n e) (w.heap.push o) e ob) : WR P (ρ.add n e) h' (n + 1) B w0 { w with heap := w.heap.push o } where
  live := by
    intro b ob' hb e' he'
    by_cases hbn : b = n
    · subst hbn
      rw [get_put_self hp] at hb; rw [Rho.add_self] at he'
      cases hb; cases he'; exact hor
    · rw [get_put_ne hp hbn] at hb; rw [Rho.add_ne _ _ hbn] at he'
      have hl := hw.rng b e' ob' he' hb
      exact (hw.live b ob' hb e' he').ext (hw.ext_add e).1 (by show (w.heap.push o)[e'.r]? = _; rw [Array.getElem?_push]; simp [show e'.r ≠ w.heap.size by omega])
  fresh := by
    intro b hb
    have hbn : b ≠ n := by omega
    rw [get_put_ne hp hbn, Rho.add_ne _ _ hbn]
    exact hw.fresh b (by omega)
  rng := by
    intro b e' o2 he' h2
    by_cases hbn : b = n
    · subst hbn; rw [Rho.add_self] at he'; cases he'; have := hw.base; simp; omega
    · rw [Rho.add_ne _ _ hbn] at he'; rw [get_put_ne hp hbn] at h2; have := hw.rng b e' o2 he' h2; simp; omega
  inj := by
    intro b1 b2 o1 o2 e1 e2 h1 h2 d1 d2 r1 r2 hr
    by_cases hb1 : b1 = n
    · by_cases hb2 : b2 = n
      · omega
      · subst hb1; rw [Rho.add_self] at r1; rw [Rho.add_ne _ _ hb2] at r2; rw [get_put_ne hp hb2] at h2; cases r1; have := hw.rng b2 e2 o2 r2 h2; omega
    · by_cases hb2 : b2 = n
      · subst hb2; rw [Rho.add_self] at r2; rw [Rho.add_ne _ _ hb1] at r1; rw [get_put_ne hp hb1] at h1; cases r2; have := hw.rng b1 e1 o1 r1 h1; omega
      · rw [get_put_ne hp hb1] at h1; rw [get_put_ne hp hb2] at h2; rw [Rho.add_ne _ _ hb1] at r1; rw [Rho.add_ne _ _ hb2] at r2
        exact hw.inj b1 b2 o1 o2 e1 e2 h1 h2 d1 d2 r1 r2 hr
  below := (hw.below.trans (Below.alloc (Below.refl B w) hw.base o))
  base := by have := hw.base; simp; omega

/-- one live block written in both -/
theorem WR.upd (hw : WR P ρ h n B w0 w) {b : Nat} {old ob : Ob} {e : Ent} (hb : h.get b = some old) (hd : old.dead = false) (he : ρ b = some e) (hp : h.put b ob = some h')
    (hs : w'.heap.size = w.heap.size) (hne : ∀ r, r ≠ e.r → w'.heap[r]? = w.heap[r]?) (ho : w'.os = w.os) (ht : w'.tape = w.tape) (hou : w'.output = w.output)
    (hor : OR P ρ w'.heap e ob) : WR P ρ h' n B w0 w' where
  live := by
    intro b2 ob' hb2 e' he'
    by_cases hbn : b2 = b
    · subst hbn; rw [get_put_self hp] at hb2; rw [he] at he'; cases hb2; cases he'; exact hor
    · rw [get_put_ne hp hbn] at hb2
      by_cases hdd : ob'.dead = true
      · cases ob' with
        | deferred c => cases c with
          | none => trivial
          | some l => simp [Ob.dead] at hdd
        | _ => simp [Ob.dead] at hdd
      · have hr : e'.r ≠ e.r := fun hr => hbn (hw.inj b2 b ob' old e' e hb2 hb (by simpa using hdd) hd he' he hr)
        exact (hw.live b2 ob' hb2 e' he').heap (hne _ hr)
  fresh := by
    intro b2 hb2
    have := hw.get_lt hb
    rw [get_put_ne hp (by omega)]
    exact hw.fresh b2 hb2
  rng := by
    rw [hs]
    intro b2 e2 o2 r2 h2
    by_cases hbn : b2 = b
    · subst hbn; exact hw.rng b2 e2 old r2 hb
    · rw [get_put_ne hp hbn] at h2; exact hw.rng b2 e2 o2 r2 h2
  inj := by
    have key : ∀ b2 o2, h'.get b2 = some o2 → o2.dead = false → ∃ o3, h.get b2 = some o3 ∧ o3.dead = false := by
      intro b2 o2 h2 d2
      by_cases hbn : b2 = b
      · subst hbn; exact ⟨old, hb, hd⟩
      · rw [get_put_ne hp hbn] at h2; exact ⟨o2, h2, d2⟩
    intro b1 b2 o1 o2 e1 e2 h1 h2 d1 d2 r1 r2 hr
    obtain ⟨p1, q1, s1⟩ := key _ _ h1 d1
    obtain ⟨p2, q2, s2⟩ := key _ _ h2 d2
    exact hw.inj b1 b2 p1 p2 e1 e2 q1 q2 s1 s2 r1 r2 hr
  below := ⟨by rw [ho]; exact hw.below.os, by rw [ht]; exact hw.below.tape, by rw [hou]; exact hw.below.output, by rw [hs]; exact hw.below.size,
    fun k hk => by rw [hne k (by have := hw.rng b e old he hb; omega)]; exact hw.below.block k hk⟩
  base := by rw [hs]; exact hw.base

/-- a block dies -/
theorem WR.kill (hw : WR P ρ h n B w0 w) {b : Nat} {old : Ob} (hb : h.get b = some old) (hp : h.put b (.deferred none) = some h') : WR P ρ h' n B w0 w where
  live := by
    intro b2 ob' hb2 e' he'
    by_cases hbn : b2 = b
    · subst hbn; rw [get_put_self hp] at hb2; cases hb2; trivial
    · rw [get_put_ne hp hbn] at hb2; exact hw.live b2 ob' hb2 e' he'
  fresh := by
    intro b2 hb2
    have := hw.get_lt hb
    rw [get_put_ne hp (by omega)]
    exact hw.fresh b2 hb2
  rng := by
    intro b2 e2 o2 r2 h2
    by_cases hbn : b2 = b
    · subst hbn; exact hw.rng b2 e2 old r2 hb
    · rw [get_put_ne hp hbn] at h2; exact hw.rng b2 e2 o2 r2 h2
  inj := by
    intro b1 b2 o1 o2 e1 e2 h1 h2 d1 d2 r1 r2 hr
    have key : ∀ b2 o2, h'.get b2 = some o2 → o2.dead = false → h.get b2 = some o2 := by
      intro b2 o2 h2 d2
      by_cases hbn : b2 = b
      · subst hbn; rw [get_put_self hp] at h2; cases h2; simp [Ob.dead] at d2
      · rw [get_put_ne hp hbn] at h2; exact h2
    exact hw.inj b1 b2 o1 o2 e1 e2 (key _ _ h1 d1) (key _ _ h2 d2) d1 d2 r1 r2 hr
  below := hw.below
  base := hw.base

/-- a new block of AM that is, in the model, the block of one that has died -/
theorem WR.heir (hw : WR P ρ h n B w0 w) {b : Nat} {old ob : Ob} {e : Ent} {h1 : T Ob} (hb : h.get b = some old) (hd : old.dead = false) (he : ρ b = some e)
    (hp1 : h.put b (.deferred none) = some h1) (hp : h1.put n ob = some h')
    (hs : w'.heap.size = w.heap.size) (hne : ∀ r, r ≠ e.r → w'.heap[r]? = w.heap[r]?) (ho : w'.os = w.os) (ht : w'.tape = w.tape) (hou : w'.output = w.output)
    (hor : OR P (ρ.add n e) w'.heap e ob) : WR P (ρ.add n e) h' (n + 1) B w0 w' where
  live := by
    intro b2 ob' hb2 e' he'
    by_cases hbn : b2 = n
    · subst hbn; rw [get_put_self hp] at hb2; rw [Rho.add_self] at he'; cases hb2; cases he'; exact hor
    · rw [get_put_ne hp hbn] at hb2; rw [Rho.add_ne _ _ hbn] at he'
      by_cases hbb : b2 = b
      · subst hbb; rw [get_put_self hp1] at hb2; cases hb2; trivial
      · rw [get_put_ne hp1 hbb] at hb2
        by_cases hdd : ob'.dead = true
        · cases ob' with
          | deferred c => cases c with
            | none => trivial
            | some l => simp [Ob.dead] at hdd
          | _ => simp [Ob.dead] at hdd
        · have hr : e'.r ≠ e.r := fun hr => hbb (hw.inj b2 b ob' old e' e hb2 hb (by simpa using hdd) hd he' he hr)
          exact (hw.live b2 ob' hb2 e' he').ext (hw.ext_add e).1 (hne _ hr)
  fresh := by
    intro b2 hb2
    have := hw.get_lt hb
    rw [get_put_ne hp (by omega), get_put_ne hp1 (by omega), Rho.add_ne _ _ (by omega)]
    exact hw.fresh b2 (by omega)
  rng := by
    intro b2 e' o2 he' h2
    rw [hs]
    by_cases hbn : b2 = n
    · subst hbn; rw [Rho.add_self] at he'; cases he'; exact hw.rng b e old he hb
    · rw [Rho.add_ne _ _ hbn] at he'; rw [get_put_ne hp hbn] at h2
      by_cases hbb : b2 = b
      · subst hbb; exact hw.rng b2 e' old he' hb
      · rw [get_put_ne hp1 hbb] at h2; exact hw.rng b2 e' o2 he' h2
  inj := by
    have key : ∀ b2 o2 e2, h'.get b2 = some o2 → o2.dead = false → ρ.add n e b2 = some e2 → (b2 = n ∧ e2 = e) ∨ (b2 ≠ n ∧ b2 ≠ b ∧ h.get b2 = some o2 ∧ ρ b2 = some e2) := by
      intro b2 o2 e2 h2 d2 r2
      by_cases hbn : b2 = n
      · subst hbn; rw [Rho.add_self] at r2; cases r2; exact .inl ⟨rfl, rfl⟩
      · rw [get_put_ne hp hbn] at h2; rw [Rho.add_ne _ _ hbn] at r2
        by_cases hbb : b2 = b
        · subst hbb; rw [get_put_self hp1] at h2; cases h2; simp [Ob.dead] at d2
        · rw [get_put_ne hp1 hbb] at h2; exact .inr ⟨hbn, hbb, h2, r2⟩
    intro b1 b2 o1 o2 e1 e2 h1 h2 d1 d2 r1 r2 hr
    rcases key _ _ _ h1 d1 r1 with ⟨p1, q1⟩ | ⟨p1, q1, s1, t1⟩ <;> rcases key _ _ _ h2 d2 r2 with ⟨p2, q2⟩ | ⟨p2, q2, s2, t2⟩
    · omega
    · subst q1; exact absurd (hw.inj b2 b o2 old e2 e1 s2 hb d2 hd t2 he hr.symm) q2
    · subst q2; exact absurd (hw.inj b1 b o1 old e1 e2 s1 hb d1 hd t1 he hr) q1
    · exact hw.inj b1 b2 o1 o2 e1 e2 s1 s2 d1 d2 t1 t2 hr
  below := ⟨by rw [ho]; exact hw.below.os, by rw [ht]; exact hw.below.tape, by rw [hou]; exact hw.below.output, by rw [hs]; exact hw.below.size,
    fun k hk => by rw [hne k (by have := hw.rng b e old he hb; omega)]; exact hw.below.block k hk⟩
  base := by rw [hs]; exact hw.base

/-- a block of AM's own, that is none of the model's (yet) -/
theorem WR.own (hw : WR P ρ h n B w0 w) {ob : Ob} (hp : h.put n ob = some h') : WR P ρ h' (n + 1) B w0 w where
  live := by
    intro b ob' hb e' he'
    have hl := hw.lt he'
    rw [get_put_ne hp (by omega)] at hb; exact hw.live b ob' hb e' he'
  fresh := by
    intro b hb
    rw [get_put_ne hp (by omega)]
    exact hw.fresh b (by omega)
  rng := by
    intro b2 e2 o2 r2 h2
    have hl := hw.lt r2
    rw [get_put_ne hp (by omega)] at h2; exact hw.rng b2 e2 o2 r2 h2
  inj := by
    intro b1 b2 o1 o2 e1 e2 h1 h2 d1 d2 r1 r2 hr
    have l1 := hw.lt r1
    have l2 := hw.lt r2
    rw [get_put_ne hp (by omega)] at h1 h2
    exact hw.inj b1 b2 o1 o2 e1 e2 h1 h2 d1 d2 r1 r2 hr
  below := hw.below
  base := hw.base

/-- .. and that comes to be one of the model's -/
theorem WR.adopt (hw : WR P ρ h n B w0 w) {b : Nat} {ob : Ob} {o : Obj} {e : Ent} (he : e.r = w.heap.size) (hb : h.get b = some ob) (hρ : ρ b = none)
    (hor : OR P (ρ.add b e) (w.heap.push o) e ob) : WR P (ρ.add b e) h n B w0 { w with heap := w.heap.push o } where
  live := by
    intro b2 ob' hb2 e' he'
    by_cases hbn : b2 = b
    · subst hbn; rw [hb] at hb2; rw [Rho.add_self] at he'; cases hb2; cases he'; exact hor
    · rw [Rho.add_ne _ _ hbn] at he'
      have hl := hw.rng b2 e' ob' he' hb2
      refine (hw.live b2 ob' hb2 e' he').ext ?_ (by show (w.heap.push o)[e'.r]? = _; rw [Array.getElem?_push]; simp [show e'.r ≠ w.heap.size by omega])
      intro b3 e3 h3
      rw [Rho.add_ne _ _ (by intro hc; subst hc; rw [hρ] at h3; exact absurd h3 (by simp))]; exact h3
  fresh := by
    intro b2 hb2
    have := hw.get_lt hb
    rw [Rho.add_ne _ _ (by omega)]
    exact hw.fresh b2 hb2
  rng := by
    intro b2 e' o2 he' h2
    by_cases hbn : b2 = b
    · subst hbn; rw [Rho.add_self] at he'; cases he'; have := hw.base; simp; omega
    · rw [Rho.add_ne _ _ hbn] at he'; have := hw.rng b2 e' o2 he' h2; simp; omega
  inj := by
    intro b1 b2 o1 o2 e1 e2 h1 h2 d1 d2 r1 r2 hr
    by_cases hb1 : b1 = b
    · by_cases hb2 : b2 = b
      · omega
      · subst hb1; rw [Rho.add_self] at r1; rw [Rho.add_ne _ _ hb2] at r2; cases r1; have := hw.rng b2 e2 o2 r2 h2; omega
    · by_cases hb2 : b2 = b
      · subst hb2; rw [Rho.add_self] at r2; rw [Rho.add_ne _ _ hb1] at r1; cases r2; have := hw.rng b1 e1 o1 r1 h1; omega
      · rw [Rho.add_ne _ _ hb1] at r1; rw [Rho.add_ne _ _ hb2] at r2
        exact hw.inj b1 b2 o1 o2 e1 e2 h1 h2 d1 d2 r1 r2 hr
  below := (hw.below.trans (Below.alloc (Below.refl B w) hw.base o))
  base := by have := hw.base; simp; omega
end
end Go.Am
end
section
namespace Go.Am
open Go Go.RowKit

/-- functions without a body that AM knows -/
def isExt (s : String) : Bool := s == "internal/bytealg.IndexByteString" || s == "sync/atomic.LoadInt64" || s == "sync/atomic.LoadUint32" || s == "sync/atomic.StoreInt64" || s == "sync/atomic.StoreUint32" || s == "internal/abi.NoEscape"
/-- the tables are the program's -/
structure APOk (P : Program) (A : AP) : Prop where
  funcs : ∀ i f, A.funcs.get i = some f → P.funcs[i]? = some f
  types : ∀ i t, A.types.get i = some t → P.info? i = some t
  plain : ∀ t, natIn t A.plain = true → P.stoodInHeld t = false ∧ ∀ fs, P.underlying t = some (.struct fs) → ∀ f ∈ fs.toList, f.name ≠ "_" ∧ ∃ k, P.underlying f.type = some (.int k)
  zeros : ∀ i t z, A.types.get i = some t → t.zero = some z → plainV z = true
  ext : ∀ i f, A.funcs.get i = some f → f.body = none → isExt f.name = true → f.origin = "" ∨ f.origin = f.name
  code : ∀ i f c, A.funcs.get i = some f → f.body = some c → codeOk c = true ∧ f.name ≠ "runtime.NumGoroutine"

/-- a call whose answer is known: it comes to that in every world, and touches nothing that is there -/
def KnownOk (P : Program) (f : FuncId) (bs : Array Value) (v : Value) : Prop :=
  ∀ w : World, Calls P f bs w fun e w' => ∃ v', e = .returned v' ∧ (∀ ρ : Rho, VR ρ v v') ∧ Below w.heap.size w w'

/-- calls whose answer is known are the program's -/
def SumsOk (P : Program) (A : AP) : Prop := ∀ f as v, (f, as, v) ∈ A.sums → KnownOk P f ⟨as⟩ v ∧ ∃ fn, P.funcs[f]? = some fn ∧ fn.body.isSome = true ∧ fn.name ≠ "runtime.NumGoroutine"

inductive NxR (P : Program) (ρ : Rho) : Nx → Next → Prop
  | value {v v' : Value} : VR ρ v v' → NxR P ρ (.value v) (.value v')
  | skip : NxR P ρ (.value undefV) .skip
  | enter {f : FuncId} {as : List Value} {bs : Array Value} : VRs ρ as bs.toList → NxR P ρ (.enter f as) (.enter f bs)
  | known {f : FuncId} {as : List Value} {bs : Array Value} {v : Value} : KnownOk P f bs v → NxR P ρ (.known f as v) (.enter f bs)
  | round {l : Nat} {e : Ent} {fn : FuncId} {tm : T Value} {nt : Nat} {tr : Array Value} {asg body : Code} : ρ l = some e → TR ρ tm nt tr → codeOk asg = true → codeOk body = true → NxR P ρ (.round l fn tm nt asg body) (.round e.r fn tr asg body)
  | defer {d d' : Deferred} : DR ρ d d' → NxR P ρ (.defer d) (.defer d')
  | recover : NxR P ρ .recover .recover

/-- what an operation comes to in AM, it comes to in the model -/
def Sim (P : Program) (ρ : Rho) (h : T Ob) (n B : Nat) (w0 w : World) (x : Res) (s : Sem Next) : Prop :=
  ∀ r h' n', x = .ok r h' n' →
    (∃ v v', r = .panic v ∧ VR ρ v v' ∧ s.run P w = .halt (.panic v') w ∧ h' = h ∧ n' = n) ∨
    ∃ nx w' ρ', s.run P w = .ok nx w' ∧ Ext ρ ρ' n ∧ n ≤ n' ∧ WR P ρ' h' n' B w0 w' ∧ NxR P ρ' r nx

/-- a value, and nothing has changed -/
def SimV (P : Program) (ρ : Rho) (w : World) (x : Option Value) (s : Sem Value) : Prop :=
  ∀ v, x = some v → ∃ v', s.run P w = .ok v' w ∧ VR ρ v v'

def asNext (s : Sem Value) : Sem Next := do pure (.value (← s))

section
variable {P : Program} {A : AP} {ρ : Rho} {h : T Ob} {n B : Nat} {w0 w : World}

theorem Sim.ofV (hw : WR P ρ h n B w0 w) {x : Option Value} {s : Sem Value} {why : Nat} (hs : SimV P ρ w x s) : Sim P ρ h n B w0 w (ofV why h n x) (asNext s) := by
  intro r h' n' hx
  cases x with
  | none => simp [Am.ofV] at hx
  | some v =>
    simp only [Am.ofV, Res.ok.injEq] at hx
    obtain ⟨rfl, rfl, rfl⟩ := hx
    obtain ⟨v', hr, hv⟩ := hs v rfl
    exact .inr ⟨.value v', w, ρ, by simp [asNext, hr], Ext.refl _ _, Nat.le_refl _, hw, .value hv⟩

theorem Sim.val (hw : WR P ρ h n B w0 w) {v v' : Value} {s : Sem Value} (hr : s.run P w = .ok v' w) (hv : VR ρ v v') : Sim P ρ h n B w0 w (.ok (.value v) h n) (asNext s) := by
  intro r h' n' hx
  simp only [Res.ok.injEq] at hx
  obtain ⟨rfl, rfl, rfl⟩ := hx
  exact .inr ⟨.value v', w, ρ, by simp [asNext, hr], Ext.refl _ _, Nat.le_refl _, hw, .value hv⟩

theorem Sim.fail {why : Nat} {s : Sem Next} : Sim P ρ h n B w0 w (.fail why) s := by intro r h' n' hx; simp at hx

/-! tables -/
theorem under_some (hA : APOk P A) {t : TypeId} {d : TypeDesc} (hu : under A t = some d) : P.underlying t = some d := by
  unfold under at hu
  split at hu
  · rename_i i hi
    have h1 := hA.types _ _ hi
    unfold Program.underlying
    rw [h1]
    split at hu
    · rename_i u hdesc
      cases i; simp only at hdesc; subst hdesc
      simp only
      split at hu
      · rename_i j hj; rw [hA.types _ _ hj]; simpa using hu
      · simp at hu
    · rename_i hne
      cases i
      rename_i desc _ _ _ _ _ _ _ _ _ 
      simp only [Option.some.injEq] at hu
      subst hu
      cases desc <;> first | rfl | exact absurd rfl (hne _ _)
  · simp at hu
theorem run_under (hA : APOk P A) {t : TypeId} {d : TypeDesc} (hu : under A t = some d) : (underlying t).run P w = .ok d w := by
  simp [underlying, under_some hA hu]
theorem size_some (hA : APOk P A) {t : TypeId} {s : Nat} (hs : sizeOfT A t = some s) : ∃ i, P.info? t = some i ∧ i.size = s := by
  unfold sizeOfT at hs
  split at hs
  · rename_i i hi; exact ⟨i, hA.types _ _ hi, by simpa using hs⟩
  · simp at hs
theorem run_sizeOf (hA : APOk P A) {t : TypeId} {s : Nat} (hs : sizeOfT A t = some s) : (sizeOf t).run P w = .ok s w := by
  obtain ⟨i, h1, h2⟩ := size_some hA hs
  simp [Go.sizeOf, typeInfo, h1, h2]
theorem cellsOf_some (hA : APOk P A) {t : TypeId} {s : Nat} (hs : sizeOfT A t = some s) : P.cellsOf t = s := by
  obtain ⟨i, h1, h2⟩ := size_some hA hs
  simp [Program.cellsOf, h1, h2]
theorem run_isAgg (hA : APOk P A) {t : TypeId} {b : Bool} (hs : isAggT A t = some b) : (isAgg t).run P w = .ok b w := by
  unfold isAggT at hs
  split at hs
  · rename_i f hu; simp [Go.isAgg, run_under hA hu]; simpa using hs
  · rename_i k e hu; simp [Go.isAgg, run_under hA hu]; simpa using hs
  · rename_i d h1 h2 hu
    simp only [Option.some.injEq] at hs
    subst hs
    simp only [Go.isAgg, Sem.run_bind, run_under hA hu, Result.andThen_ok]
    cases d <;> first | rfl | exact absurd rfl (h1 _) | exact absurd rfl (h2 _ _)
  · simp at hs
theorem run_zero (hA : APOk P A) {t : TypeId} {z : Value} (hz : zeroT A t = some z) : (zeroValue t).run P w = .ok z w := by
  unfold zeroT at hz
  split at hz
  · rename_i i hi; simp [zeroValue, typeInfo, hA.types _ _ hi, hz]
  · simp at hz
theorem zero_plain (hA : APOk P A) {t : TypeId} {z : Value} (hz : zeroT A t = some z) : plainV z = true := by
  unfold zeroT at hz
  split at hz
  · rename_i i hi; exact hA.zeros t i z hi hz
  · simp at hz
theorem info_zero (hA : APOk P A) {t : TypeId} {z : Value} (hz : zeroT A t = some z) : ∃ i, P.info? t = some i ∧ i.zero = some z := by
  unfold zeroT at hz
  split at hz
  · rename_i i hi; exact ⟨i, hA.types _ _ hi, hz⟩
  · simp at hz

/-! values -/
theorem cells_eq (v : Value) : cellsOf v = v.cells.toList := by cases v <;> simp [cellsOf, Value.cells]
theorem VR.cells {v v' : Value} (hv : VR ρ v v') : VRs ρ v.cells.toList v'.cells.toList := by
  cases hv with
  | agg hs hc =>
    refine ⟨by simpa [Value.cells] using hs, fun i x y hx hy => hc i x y ?_ ?_⟩
    · simpa [Value.cells] using hx
    · simpa [Value.cells] using hy
  | _ =>
    refine ⟨rfl, fun i x y hx hy => ?_⟩
    cases i with
    | zero => simp only [Value.cells, List.getElem?_cons_zero, Option.some.injEq] at hx hy; subst hx; subst hy; constructor <;> assumption
    | succ i => simp [Value.cells] at hx
end
end Go.Am
end
section
namespace Go.Am
open Go Go.RowKit

section
variable {P : Program} {A : AP} {ρ : Rho} {h : T Ob} {n B : Nat} {w0 w : World}

theorem cell_of {w : World} {r : Nat} {cr : Array Value} {el : TypeId} {f : Nat × Nat} (hh : w.heap[r]? = some (.cells cr el f)) (o : Nat) : w.cell? ⟨r, o, none⟩ = cr[o]? := by
  simp [World.cell?, hh]
theorem addr_add (r o i : Nat) : (⟨r, o, none⟩ : Addr).add i = ⟨r, o + i, none⟩ := by
  unfold Addr.add; split <;> simp_all

theorem run_load1 {a : Addr} {v : Value} (hc : w.cell? a = some v) : (load a).run P w = .ok v w := by
  simp [load, Sem.run, hc]

/-- so many cells loaded -/
theorem run_loadFrom {r o : Nat} {vs : List Value} : ∀ (i : Nat) (acc : Array Value), (∀ j v, vs[j]? = some v → w.cell? ⟨r, o + i + j, none⟩ = some v) →
    (loadCellsFrom ⟨r, o, none⟩ i vs.length acc).run P w = .ok (acc ++ vs.toArray) w := by
  induction vs with
  | nil => intro i acc _; simp [loadCellsFrom]
  | cons v vs ih =>
    intro i acc hc
    have h0 : w.cell? ⟨r, o + i, none⟩ = some v := by have := hc 0 v (by simp); simpa using this
    have := ih (i + 1) (acc.push v) (fun j x hx => by have := hc (j + 1) x (by simpa using hx); rw [show o + (i + 1) + j = o + i + (j + 1) by omega]; exact this)
    simp only [List.length_cons, loadCellsFrom, addr_add, Sem.run_bind, run_load1 h0, Result.andThen_ok, this]
    simp
theorem run_loadCells {r o m : Nat} {vs : List Value} (hm : vs.length = m) (hc : ∀ j v, vs[j]? = some v → w.cell? ⟨r, o + j, none⟩ = some v) :
    (Go.loadCells ⟨r, o, none⟩ m).run P w = .ok vs.toArray w := by
  subst hm
  have := run_loadFrom (P := P) (w := w) (r := r) (o := o) (vs := vs) 0 #[] (fun j v hv => by simpa using hc j v hv)
  simpa [Go.loadCells] using this

/-- a stretch of a row of cells, in the model -/
theorem stretch {c : List Value} {cr : Array Value} (hc : ∀ (i : Nat) (x : Value), c[i]? = some x → ∃ y, cr[i]? = some y ∧ VR ρ x y) {o m : Nat} (hm : m ≤ (c.drop o).length) :
    ∃ vs : List Value, vs.length = m ∧ (∀ j v, vs[j]? = some v → cr[o + j]? = some v) ∧ VRs ρ ((c.drop o).take m) vs := by
  refine ⟨(cr.toList.drop o).take m, ?_, ?_, ?_⟩
  · simp only [List.length_take, List.length_drop, Array.length_toList]
    simp only [List.length_drop] at hm
    by_cases h0 : m = 0
    · omega
    · have hl : o + m - 1 < c.length := by omega
      obtain ⟨y, hy, _⟩ := hc (o + m - 1) c[o + m - 1] (by simp [hl])
      have : o + m - 1 < cr.size := by
        rcases Nat.lt_or_ge (o + m - 1) cr.size with hh | hh
        · exact hh
        · rw [Array.getElem?_eq_none hh] at hy; simp at hy
      omega
  · intro j v hv
    rw [List.getElem?_take] at hv
    split at hv
    · rw [List.getElem?_drop] at hv; simpa using hv
    · simp at hv
  · refine ⟨?_, ?_⟩
    · simp only [List.length_take, List.length_drop, Array.length_toList]
      simp only [List.length_drop] at hm
      by_cases h0 : m = 0
      · omega
      · have hl : o + m - 1 < c.length := by omega
        obtain ⟨y, hy, _⟩ := hc (o + m - 1) c[o + m - 1] (by simp [hl])
        have : o + m - 1 < cr.size := by
          rcases Nat.lt_or_ge (o + m - 1) cr.size with hh | hh
          · exact hh
          · rw [Array.getElem?_eq_none hh] at hy; simp at hy
        omega
    · intro i x y hx hy
      rw [List.getElem?_take] at hx hy
      split at hx
      · rw [List.getElem?_drop] at hx hy
        rename_i hi
        simp only [hi, if_true] at hy
        obtain ⟨z, hz, hv⟩ := hc (o + i) x hx
        have : z = y := by rw [Array.getElem?_toList] at hy; rw [hy] at hz; exact (Option.some.inj hz).symm
        subst this; exact hv
      · simp at hx

/-- the cells of a live block -/
theorem WR.cells (hw : WR P ρ h n B w0 w) {b : Nat} {e : Ent} {c : List Value} {el : TypeId} {lo hi : Nat} (hb : h.get b = some (.cells c el lo hi)) (he : ρ b = some e) :
    ∃ cr flo fhi, w.heap[e.r]? = some (.cells cr el (flo, fhi)) ∧ cr.size = e.cells ∧ P.cellsOf el = e.s ∧ c.length ≤ cr.size ∧
      (∀ (i : Nat) (x : Value), c[i]? = some x → ∃ y, cr[i]? = some y ∧ VR ρ x y) ∧ flo ≤ fhi ∧ (∀ i, flo ≤ i → i < fhi → lo ≤ i ∧ (i < hi ∨ hi = LOOSE)) := hw.live b _ hb e he

theorem sim_loadCells (hA : APOk P A) (hw : WR P ρ h n B w0 w) {b : Nat} {e : Ent} {c : List Value} {el : TypeId} {lo hi : Nat} (hb : h.get b = some (.cells c el lo hi)) (he : ρ b = some e)
    {t : TypeId} {o s : Nat} {agg : Bool} (ha : isAggT A t = some agg) (hs : sizeOfT A t = some s) :
    SimV P ρ w (Am.loadCells c o agg s none some) (loadVar t ⟨e.r, o, none⟩) := by
  intro v hv
  obtain ⟨cr, flo, fhi, h1, h2, h3, h4, h5, h6, h7⟩ := hw.cells hb he
  cases agg with
  | true =>
    simp only [Am.loadCells, cond_true, ldrop_eq, ltakeK_eq] at hv
    split at hv
    · rename_i hm
      simp only [Option.some.injEq] at hv
      subst hv
      obtain ⟨vs, g1, g2, g3⟩ := stretch h5 hm
      refine ⟨.agg vs.toArray, ?_, ?_⟩
      · have := run_loadCells (P := P) (w := w) (r := e.r) (o := o) g1 (fun j x hx => by rw [cell_of h1]; exact g2 j x hx)
        simp [loadVar, run_isAgg hA ha, run_sizeOf hA hs, this]
      · exact .agg (by simpa using g3.1) (fun i x y hx hy => g3.2 i x y (by simpa using hx) (by simpa using hy))
    · simp at hv
  | false =>
    simp only [Am.loadCells, cond_false, lnth_eq, vK_eq] at hv
    split at hv
    · rename_i x hx
      simp only [Option.some.injEq] at hv
      subst hv
      obtain ⟨y, hy, hxy⟩ := h5 o x hx
      have hc : w.cell? ⟨e.r, o, none⟩ = some y := by rw [cell_of h1, hy]
      exact ⟨y, by simp [loadVar, run_isAgg hA ha, hc], hxy⟩
    · simp at hv

theorem sim_loadK (hA : APOk P A) (hw : WR P ρ h n B w0 w) {a a' : Addr} (ha : VR ρ (.pointer (some a)) (.pointer (some a'))) {t : TypeId} :
    SimV P ρ w (loadK A t a h none some) (loadVar t a') := by
  intro v hv
  cases ha with
  | @ptr b o e he =>
    simp only [loadK] at hv
    split at hv
    · rename_i c el lo hi hb
      split at hv
      · rename_i agg hag
        split at hv
        · rename_i s hs
          exact sim_loadCells hA hw hb he hag hs v hv
        · simp at hv
      · simp at hv
    · simp at hv

theorem sim_xLoad (hA : APOk P A) (hw : WR P ρ h n B w0 w) {tm : T Value} {t : TypeId} {x : Operand} {x' : Value} (hx : VR ρ (ev tm x) x') :
    Sim P ρ h n B w0 w (xLoad t x A tm h n) (asNext (Instr.loadAt t x')) := by
  unfold xLoad
  split
  · rename_i a ha
    rw [ha] at hx
    cases hx with
    | @ptr b o e he =>
      refine Sim.ofV hw ?_
      have := sim_loadK hA hw (VR.ptr (o := o) he) (t := t)
      intro v hv
      obtain ⟨v', hr, hv'⟩ := this v hv
      exact ⟨v', by simp [Instr.loadAt, Instr.sureAddr, hr], hv'⟩
  · exact Sim.fail

theorem sim_xMove (hw : WR P ρ h n B w0 w) {tm : T Value} {x : Operand} {x' : Value} (hx : VR ρ (ev tm x) x') :
    Sim P ρ h n B w0 w (xMove x A tm h n) (pure (.value x')) := by
  intro r h' n' hr
  simp only [xMove, evK_eq, Res.ok.injEq] at hr
  obtain ⟨rfl, rfl, rfl⟩ := hr
  exact .inr ⟨.value x', w, ρ, by simp, Ext.refl _ _, Nat.le_refl _, hw, .value hx⟩

theorem sim_xPick (hw : WR P ρ h n B w0 w) {tm : T Value} {c a b : Operand} {c' a' b' : Value} (hc : VR ρ (ev tm c) c') (ha : VR ρ (ev tm a) a') (hb : VR ρ (ev tm b) b') :
    Sim P ρ h n B w0 w (xPick c a b A tm h n) (do pure (.value (if ← asBool c' then a' else b'))) := by
  unfold xPick
  split
  · rename_i t ht
    rw [ht] at hc
    cases hc
    intro r h' n' hr
    cases t with
    | true =>
      simp only [cond_true, evK_eq, Res.ok.injEq] at hr
      obtain ⟨rfl, rfl, rfl⟩ := hr
      exact .inr ⟨.value a', w, ρ, by simp [asBool], Ext.refl _ _, Nat.le_refl _, hw, .value ha⟩
    | false =>
      simp only [cond_false, evK_eq, Res.ok.injEq] at hr
      obtain ⟨rfl, rfl, rfl⟩ := hr
      exact .inr ⟨.value b', w, ρ, by simp [asBool], Ext.refl _ _, Nat.le_refl _, hw, .value hb⟩
  · exact Sim.fail

theorem sim_xExtract (hw : WR P ρ h n B w0 w) {tm : T Value} {t : Operand} {t' : Value} {i : Nat} (ht : VR ρ (ev tm t) t') :
    Sim P ρ h n B w0 w (xExtract t i A tm h n) (asNext (Instr.extract t' i)) := by
  unfold xExtract
  split
  · rename_i vs hv
    rw [hv] at ht
    cases ht with
    | @tuple _ bs hs hc =>
      split
      · rename_i v hvi
        simp only [lnth_eq] at hvi
        have hi : vs[i]? = some v := by simpa using hvi
        have hlt : i < bs.size := by
          rcases Nat.lt_or_ge i vs.size with hl | hg
          · omega
          · rw [Array.getElem?_eq_none hg] at hi; simp at hi
        have hb : bs[i]? = some bs[i] := by simp [hlt]
        exact Sim.val hw (v' := bs[i]) (by simp [Instr.extract, hb]) (hc i v _ hi hb)
      · exact Sim.fail
  · exact Sim.fail

theorem sim_xNilCheck (hw : WR P ρ h n B w0 w) {tm : T Value} {x : Operand} {x' : Value} (hx : VR ρ (ev tm x) x') {s : Value → Sem Value}
    (hp : ∀ a, s (.pointer (some a)) = pure (.pointer (some a))) (hi : ∀ t v, s (.iface t v) = pure (.iface t v)) (hf : ∀ f a b, s (.func (.func f) a b) = pure (.func (.func f) a b))
    (hy : ∀ f a b, s (.func (.yield f) a b) = pure (.func (.yield f) a b)) :
    Sim P ρ h n B w0 w (xNilCheck x A tm h n) (asNext (s x')) := by
  unfold xNilCheck
  split
  · rename_i a ha; rw [ha] at hx
    have hx' := hx
    cases hx with
    | ptr he => exact Sim.val hw (v' := .pointer (some _)) (by rw [hp]; rfl) hx'
  · rename_i t v ha; rw [ha] at hx
    have hx' := hx
    cases hx with
    | iface t hv => exact Sim.val hw (by rw [hi]; rfl) hx'
  · rename_i f a b ha; rw [ha] at hx
    have hx' := hx
    cases hx with
    | func f h1 h2 h3 h4 => exact Sim.val hw (by rw [hf]; rfl) hx'
  · rename_i f a b ha; rw [ha] at hx
    have hx' := hx
    cases hx with
    | yield h1 => exact Sim.val hw (by rw [hy]; rfl) hx'
  · exact Sim.fail

theorem sim_xMakeInterface (hA : APOk P A) (hw : WR P ρ h n B w0 w) {tm : T Value} {t : TypeId} {x : Operand} {x' : Value} (hx : VR ρ (ev tm x) x') :
    Sim P ρ h n B w0 w (xMakeInterface t x A tm h n) (asNext (Instr.makeInterface t x')) := by
  unfold xMakeInterface
  split
  · exact Sim.fail
  · rename_i d hne hu
    simp only [evK_eq]
    refine Sim.val hw (v' := .iface t x') ?_ (.iface t hx)
    simp only [Instr.makeInterface, Sem.run_bind, run_under hA hu, Result.andThen_ok]
    cases d <;> first | rfl | exact absurd hu (hne _)
  · exact Sim.fail
end
end Go.Am
end
section
namespace Go.Am
open Go Go.RowKit

theorem oneC_eq (v : Value) : oneC v = v.oneCell' := by cases v <;> rfl
theorem oneCs_all : ∀ (vs : List Value), oneCs vs = true → ∀ v ∈ vs, v.oneCell' = true
  | [], _, v, hv => by simp at hv
  | x :: xs, h, v, hv => by
    simp only [oneCs] at h
    cases hx : oneC x with
    | false => simp [hx] at h
    | true =>
      simp only [hx, cond_true] at h
      rcases List.mem_cons.1 hv with rfl | hm
      · rw [← oneC_eq]; exact hx
      · exact oneCs_all xs h v hm
theorem VR.one {ρ : Rho} {v v' : Value} (h : VR ρ v v') : v'.oneCell' = v.oneCell' := by cases h <;> rfl

/-- cells laid over -/
def lay (cr : Array Value) (a : Nat) (vs : List Value) : Array Value := (cr.toList.take a ++ vs ++ cr.toList.drop (a + vs.length)).toArray
theorem lay_size (cr : Array Value) (a : Nat) (vs : List Value) (h : a + vs.length ≤ cr.size) : (lay cr a vs).size = cr.size := by
  simp only [lay, List.size_toArray, List.length_append, List.length_take, List.length_drop, Array.length_toList]; omega
theorem lay_nil (cr : Array Value) (a : Nat) : lay cr a [] = cr := by
  simp [lay]
theorem lay_cons (cr : Array Value) (a : Nat) (v : Value) (vs : List Value) (h : a + (vs.length + 1) ≤ cr.size) : lay (cr.setIfInBounds a v) (a + 1) vs = lay cr a (v :: vs) := by
  have h1 : a < cr.toList.length := by simp; omega
  have hl : (cr.setIfInBounds a v).toList = cr.toList.set a v := by simp
  have e1 : (cr.toList.set a v).take (a + 1) = cr.toList.take a ++ [v] := by
    rw [List.take_add_one, List.getElem?_set_self h1]
    simp [List.take_set]
    rw [List.set_eq_of_length_le (by simp; omega)]
  have e2 : (cr.toList.set a v).drop (a + 1 + vs.length) = cr.toList.drop (a + (vs.length + 1)) := by
    rw [List.drop_set_of_lt (by omega)]; congr 1; omega
  unfold lay
  rw [hl, e1, e2]
  simp

section
variable {P : Program} {A : AP} {ρ : Rho} {h : T Ob} {n B : Nat} {w0 w : World}

theorem run_storeCells_lay {r o : Nat} {el : TypeId} {f : Nat × Nat} : ∀ (vs : List Value) (i : Nat) (cr : Array Value) (w : World), w.heap[r]? = some (.cells cr el f) → o + i + vs.length ≤ cr.size →
    (∀ j, o + i ≤ j → j < o + i + vs.length → ¬ (f.1 ≤ j ∧ j < f.2)) → (∀ v ∈ vs, v.oneCell' = true) →
    ∃ w', (storeCells ⟨r, o, none⟩ vs i).run P w = .ok () w' ∧ w'.heap[r]? = some (.cells (lay cr (o + i) vs) el f) ∧ w'.heap.size = w.heap.size ∧ (∀ k, k ≠ r → w'.heap[k]? = w.heap[k]?) ∧
      w'.os = w.os ∧ w'.tape = w.tape ∧ w'.output = w.output
  | [], i, cr, w, hh, hl, _, _ => ⟨w, by simp [storeCells], by rw [lay_nil]; exact hh, rfl, fun _ _ => rfl, rfl, rfl, rfl⟩
  | v :: vs, i, cr, w, hh, hl, hf, h1 => by
    have hlt : r < w.heap.size := by
      rcases Nat.lt_or_ge r w.heap.size with h2 | h2
      · exact h2
      · rw [Array.getElem?_eq_none h2] at hh; simp at hh
    have hoi : o + i < cr.size := by simp only [List.length_cons] at hl; omega
    have hc : w.cell? ⟨r, o + i, none⟩ = some (cr[o + i]'hoi) := by rw [cell_of hh]; simp [hoi]
    have hz : w.frozen? ⟨r, o + i, none⟩ = false := by
      have := hf (o + i) (by omega) (by simp)
      obtain ⟨f1, f2⟩ := f
      simp only [World.frozen?, hh]
      simpa using this
    have hset : (w.setCell ⟨r, o + i, none⟩ v).heap = w.heap.set r (.cells (cr.setIfInBounds (o + i) v) el f) hlt := by
      simp only [World.setCell]
      apply Array.ext_getElem?
      intro k
      rw [Array.getElem?_modify, Array.getElem?_set]
      by_cases hk : r = k
      · subst hk; simp [hh]
      · simp [hk]
    have hst : (store ((⟨r, o, none⟩ : Addr).add i) v).run P w = .ok () (w.setCell ⟨r, o + i, none⟩ v) := by
      rw [addr_add, run_store P w _ v _ (h1 v (by simp)), hc, hz]; rfl
    obtain ⟨w', g1, g2, g3, g4, g5, g6, g7⟩ := run_storeCells_lay (r := r) (o := o) (el := el) (f := f) vs (i + 1) (cr.setIfInBounds (o + i) v) (w.setCell ⟨r, o + i, none⟩ v)
      (by rw [hset]; simp) (by simp at hl ⊢; omega) (fun j a b => hf j (by omega) (by simp; omega)) (fun x hx => h1 x (by simp [hx]))
    refine ⟨w', ?_, ?_, ?_, ?_, g5, g6, g7⟩
    · simp only [storeCells, Sem.run_bind]
      rw [hst]
      simpa using g1
    · rw [g2, show o + (i + 1) = o + i + 1 by omega, lay_cons _ _ _ _ (by simpa using hl)]
    · rw [g3, hset]; simp
    · intro k hk; rw [g4 k hk, hset, Array.getElem?_set]; simp [Ne.symm hk]

/-- what a stretch laid over reads as -/
theorem lay_rel {c : List Value} {cr : Array Value} (hlen : c.length ≤ cr.size) (hc : ∀ (i : Nat) (x : Value), c[i]? = some x → ∃ y, cr[i]? = some y ∧ VR ρ x y) {vs vs' : List Value} (hv : VRs ρ vs vs') {a : Nat} (hl : a + vs.length ≤ c.length) :
    ∀ (i : Nat) (x : Value), (c.take a ++ vs ++ c.drop (a + vs.length))[i]? = some x → ∃ y, (lay cr a vs')[i]? = some y ∧ VR ρ x y := by
  intro i x hx
  have e := hv.1
  have h2 : cr.toList.length = cr.size := by simp
  simp only [lay, List.append_assoc, List.getElem?_toArray] at hx ⊢
  by_cases hi : i < a
  · rw [List.getElem?_append_left (by simp; omega), List.getElem?_take, if_pos hi] at hx
    rw [List.getElem?_append_left (by simp; omega), List.getElem?_take, if_pos hi]
    simpa using hc i x hx
  · rw [List.getElem?_append_right (by simp; omega)] at hx
    rw [List.getElem?_append_right (by simp; omega)]
    simp only [List.length_take, h2] at hx ⊢
    rw [show i - min a c.length = i - a by omega] at hx
    rw [show i - min a cr.size = i - a by omega]
    by_cases hj : i - a < vs.length
    · rw [List.getElem?_append_left hj] at hx
      rw [List.getElem?_append_left (by omega)]
      have hy : vs'[i - a]? = some vs'[i - a] := by simp [show i - a < vs'.length by omega]
      exact ⟨_, hy, hv.2 _ _ _ hx hy⟩
    · rw [List.getElem?_append_right (by omega), List.getElem?_drop] at hx
      rw [List.getElem?_append_right (by omega), List.getElem?_drop]
      rw [← e]
      simpa using hc _ x hx

/-- cells written over in both -/
theorem sim_put (hw : WR P ρ h n B w0 w) {b a : Nat} {e : Ent} {c : List Value} {el : TypeId} {lo hi : Nat} (hb : h.get b = some (.cells c el lo hi)) (he : ρ b = some e) {vs vs' : List Value} (hv : VRs ρ vs vs')
    {m : Nat} (hm : vs.length ≤ m) {h' : T Ob} (hp : putK a b c el lo hi vs m h none some = some h') :
    ∃ w', (storeCells ⟨e.r, a, none⟩ vs').run P w = .ok () w' ∧ WR P ρ h' n B w0 w' := by
  obtain ⟨cr, flo, fhi, h1, h2, h3, h4, h5, h6, h7⟩ := hw.cells hb he
  simp only [putK, loverK_eq, T.setK_eq, natBle, natAdd, natBeq] at hp
  cases ho : oneCs vs with
  | false => simp [ho] at hp
  | true =>
    cases hz : (or (and (decide (hi ≤ a)) (not (decide (hi = LOOSE)))) (decide (a + m ≤ lo)) : Bool) with
    | false => simp [ho, hz] at hp
    | true =>
      simp only [ho, hz, Bool.and_self, cond_true] at hp
      split at hp
      · rename_i hl
        split at hp
        · rename_i t' ht
          simp only [Option.some.injEq] at hp
          subst hp
          have hz' : (hi ≤ a ∧ hi ≠ LOOSE) ∨ a + m ≤ lo := by simpa using hz
          have hones : ∀ v ∈ vs', v.oneCell' = true := by
            intro v hvm
            obtain ⟨i, hi, rfl⟩ := List.getElem_of_mem hvm
            have hx : vs[i]? = some (vs[i]'(by rw [hv.1]; exact hi)) := by simp
            have hy : vs'[i]? = some vs'[i] := by simp
            rw [(hv.2 i _ _ hx hy).one]
            exact oneCs_all vs ho _ (by simp)
          obtain ⟨w', g1, g2, g3, g4, g5, g6, g7⟩ := run_storeCells_lay (P := P) (r := e.r) (o := a) vs' 0 cr w h1 (by have := hv.1; omega)
            (by
              intro j hj1 hj2 ⟨q1, q2⟩
              have hq := h7 j q1 q2
              have := hv.1
              omega) hones
          refine ⟨w', g1, hw.upd hb rfl he ht g3 g4 g5 g6 g7 ?_⟩
          refine ⟨lay cr a vs', flo, fhi, by rw [g2]; simp, by rw [lay_size _ _ _ (by have := hv.1; omega)]; exact h2, h3, ?_, lay_rel h4 h5 hv hl, h6, h7⟩
          rw [lay_size _ _ _ (by have := hv.1; omega)]
          simp only [List.length_append, List.length_take, List.length_drop]; omega
        · simp at hp
      · simp at hp

theorem putK_map {β : Type} (a b : Nat) (c : List Value) (e : TypeId) (lo hi : Nat) (vs : List Value) (m : Nat) (h : T Ob) (f : β) (k : T Ob → β) :
    putK a b c e lo hi vs m h f k = match putK a b c e lo hi vs m h none some with | some h' => k h' | none => f := by
  simp only [putK, loverK_eq, T.setK_eq]
  cases (oneCs vs && or (and (Nat.ble hi a) (not (Nat.beq hi LOOSE))) (Nat.ble (Nat.add a m) lo)) with
  | false => rfl
  | true =>
    simp only [cond_true]
    by_cases hl : a + vs.length ≤ c.length
    · simp only [if_pos hl]
      split <;> simp
    · simp only [if_neg hl]

theorem cells_length (v : Value) : (cellsOf v).length = v.cells.size := by rw [cells_eq]; simp

/-- a variable written -/
theorem sim_storeK (hA : APOk P A) (hw : WR P ρ h n B w0 w) {t : TypeId} {a a' : Addr} {v v' : Value} (ha : VR ρ (.pointer (some a)) (.pointer (some a'))) (hv : VR ρ v v') {h' : T Ob}
    (hs : storeK A t a v h none some = some h') : ∃ w', (storeVar t a' v').run P w = .ok () w' ∧ WR P ρ h' n B w0 w' := by
  cases ha with
  | @ptr b o e he =>
    simp only [storeK] at hs
    split at hs
    · rename_i c el lo hi hb
      split at hs
      · rename_i s hsz
        simp only [natBeq, llen_eq, Bool.cond_decide] at hs
        split at hs
        · rename_i hlen
          have hcs := VR.cells hv
          rw [← cells_eq, ← cells_eq] at hcs
          obtain ⟨w', g1, g2⟩ := sim_put hw hb he hcs (Nat.le_of_eq hlen) hs
          refine ⟨w', ?_, g2⟩
          have hsz' : v'.cells.size = s := by rw [← cells_length, ← hcs.1, hlen]
          simp only [storeVar, Sem.run_bind, run_sizeOf hA hsz, Result.andThen_ok]
          rw [if_neg (by omega)]
          rw [cells_eq] at g1
          simpa using g1
        · simp at hs
      · simp at hs
    · simp at hs

theorem storeK_map {β : Type} (A : AP) (t : TypeId) (a : Addr) (v : Value) (h : T Ob) (f : β) (k : T Ob → β) :
    storeK A t a v h f k = match storeK A t a v h none some with | some h' => k h' | none => f := by
  unfold storeK
  split
  · split
    · split
      · cases Nat.beq (llen (cellsOf v)) _ with
        | false => rfl
        | true => simp only [cond_true]; exact putK_map ..
      · rfl
    · rfl
  · rfl

theorem sim_xStore (hA : APOk P A) (hw : WR P ρ h n B w0 w) {tm : T Value} {t : TypeId} {x y : Operand} {x' y' : Value} (hx : VR ρ (ev tm x) x') (hy : VR ρ (ev tm y) y') :
    Sim P ρ h n B w0 w (xStore t x y A tm h n) (do Instr.storeAt t x' y'; pure .skip) := by
  unfold xStore
  split
  · rename_i a ha
    rw [ha] at hx
    have hx' := hx
    cases hx with
    | @ptr b o e he =>
      rw [storeK_map]
      split
      · rename_i h' hs
        obtain ⟨w', g1, g2⟩ := sim_storeK hA hw hx' hy hs
        intro r h2 n2 hr
        simp only [Res.ok.injEq] at hr
        obtain ⟨rfl, rfl, rfl⟩ := hr
        exact .inr ⟨.skip, w', ρ, by simp [Instr.storeAt, Instr.sureAddr, g1], Ext.refl _ _, Nat.le_refl _, g2, .skip⟩
      · exact Sim.fail
  · exact Sim.fail
end
end Go.Am
end
section
set_option linter.unusedVariables false
namespace Go.Am
open Go Go.RowKit

section
variable {ρ : Rho}
theorem VRs.nil : VRs ρ [] [] := ⟨rfl, fun i x y hx => by simp at hx⟩
theorem VRs.cons {x y : Value} {xs ys : List Value} (h : VR ρ x y) (hs : VRs ρ xs ys) : VRs ρ (x :: xs) (y :: ys) :=
  ⟨by simp [hs.1], fun i a b ha hb => by
    cases i with
    | zero => simp at ha hb; subst ha; subst hb; exact h
    | succ i => simp at ha hb; exact hs.2 i a b ha hb⟩
theorem VRs.of_cons {x : Value} {xs ys : List Value} (h : VRs ρ (x :: xs) ys) : ∃ y ys', ys = y :: ys' ∧ VR ρ x y ∧ VRs ρ xs ys' := by
  cases ys with
  | nil => exact absurd h.1 (by simp)
  | cons y ys => exact ⟨y, ys, rfl, h.2 0 x y (by simp) (by simp), by simpa using h.1, fun i a b ha hb => h.2 (i + 1) a b (by simpa using ha) (by simpa using hb)⟩
theorem VRs.of_nil {ys : List Value} (h : VRs ρ [] ys) : ys = [] := by
  cases ys with
  | nil => rfl
  | cons y ys => exact absurd h.1 (by simp)
theorem VRs.append {xs ys xs' ys' : List Value} (h : VRs ρ xs ys) (h' : VRs ρ xs' ys') : VRs ρ (xs ++ xs') (ys ++ ys') := by
  induction xs generalizing ys with
  | nil => rw [VRs.of_nil h]; exact h'
  | cons x xs ih => obtain ⟨y, ys2, rfl, h1, h2⟩ := VRs.of_cons h; exact VRs.cons h1 (ih h2)
theorem VRs.take {xs ys : List Value} (h : VRs ρ xs ys) (n : Nat) : VRs ρ (xs.take n) (ys.take n) := by
  induction xs generalizing ys n with
  | nil => rw [VRs.of_nil h]; simpa using VRs.nil
  | cons x xs ih =>
    obtain ⟨y, ys2, rfl, h1, h2⟩ := VRs.of_cons h
    cases n with
    | zero => exact VRs.nil
    | succ n => exact VRs.cons h1 (ih h2 n)
theorem VRs.drop {xs ys : List Value} (h : VRs ρ xs ys) (n : Nat) : VRs ρ (xs.drop n) (ys.drop n) := by
  induction xs generalizing ys n with
  | nil => rw [VRs.of_nil h]; simpa using VRs.nil
  | cons x xs ih =>
    obtain ⟨y, ys2, rfl, h1, h2⟩ := VRs.of_cons h
    cases n with
    | zero => exact VRs.cons h1 h2
    | succ n => exact ih h2 n
theorem VRs.replicate {x y : List Value} (h : VRs ρ x y) (n : Nat) : VRs ρ (List.replicate n x).flatten (List.replicate n y).flatten := by
  induction n with
  | zero => exact VRs.nil
  | succ n ih => simp only [List.replicate_succ, List.flatten_cons]; exact VRs.append h ih
theorem VRs.get {xs ys : List Value} (h : VRs ρ xs ys) {i : Nat} {x : Value} (hx : xs[i]? = some x) : ∃ y, ys[i]? = some y ∧ VR ρ x y := by
  have hi : i < xs.length := by
    rcases Nat.lt_or_ge i xs.length with hl | hg
    · exact hl
    · rw [List.getElem?_eq_none hg] at hx; simp at hx
  have hj : i < ys.length := by rw [← h.1]; exact hi
  have hy : ys[i]? = some ys[i] := by simp [hj]
  exact ⟨_, hy, h.2 i _ _ hx hy⟩
theorem VRs.toAgg {xs ys : List Value} (h : VRs ρ xs ys) : VR ρ (.agg ⟨xs⟩) (.agg ⟨ys⟩) := .agg (by simpa using h.1) (fun i x y hx hy => h.2 i x y (by simpa using hx) (by simpa using hy))
theorem VRs.toTuple {xs ys : List Value} (h : VRs ρ xs ys) : VR ρ (.tuple ⟨xs⟩) (.tuple ⟨ys⟩) := .tuple (by simpa using h.1) (fun i x y hx hy => h.2 i x y (by simpa using hx) (by simpa using hy))
theorem VRs.ofAgg {xs : Array Value} {v : Value} (h : VR ρ (.agg xs) v) : ∃ ys, v = .agg ys ∧ VRs ρ xs.toList ys.toList := by
  cases h with
  | agg hs hc => exact ⟨_, rfl, by simpa using hs, fun i x y hx hy => hc i x y (by simpa using hx) (by simpa using hy)⟩
theorem VRs.cellsOf {v v' : Value} (h : VR ρ v v') : VRs ρ (cellsOf v) v'.cells.toList := by rw [cells_eq]; exact VR.cells h

theorem VR.plainC {v : Value} (h : plainC v = true) : VR ρ v v := by
  cases v with
  | bool b => exact .bool b
  | int k n => exact .int k n
  | float k b => exact .float k b
  | complex k a b => exact .complex k a b
  | string s => exact .string s
  | pointer a => cases a with
    | none => exact .nilPtr
    | some a => simp [Go.Am.plainC] at h
  | slice a l c => cases a with
    | none => exact .nilSlice l c
    | some a => simp [Go.Am.plainC] at h
  | map r => cases r with
    | none => exact .nilMap
    | some r => simp [Go.Am.plainC] at h
  | chan r => cases r with
    | none => exact .nilChan
    | some r => simp [Go.Am.plainC] at h
  | nilFunc => exact .nilFunc
  | nilIface => exact .nilIface
  | _ => simp [Go.Am.plainC] at h
theorem VR.plainA {v : Value} (h : plainA v = true) : VR ρ v v := by
  cases v with
  | agg cs =>
    simp only [Go.Am.plainA, List.all_eq_true] at h
    refine .agg rfl (fun i x y hx hy => ?_)
    rw [hx] at hy
    cases hy
    exact VR.plainC (h x (by rw [Array.getElem?_eq_some_iff] at hx; obtain ⟨hi, rfl⟩ := hx; simp))
  | _ => exact VR.plainC h
theorem VR.plainV {v : Value} (h : plainV v = true) : VR ρ v v := by
  cases v with
  | tuple cs =>
    simp only [Go.Am.plainV, List.all_eq_true] at h
    refine .tuple rfl (fun i x y hx hy => ?_)
    rw [hx] at hy
    cases hy
    exact VR.plainA (h x (by rw [Array.getElem?_eq_some_iff] at hx; obtain ⟨hi, rfl⟩ := hx; simp))
  | _ => exact VR.plainA h
end

/-! aggregates -/
def layL (c : List Value) (a : Nat) (vs : List Value) : List Value := c.take a ++ vs ++ c.drop (a + vs.length)
def fillA (off : Nat → Option Nat) : List (Nat × Value) → List Value → Option (List Value)
  | [], c => some c
  | (i, v) :: r, c => match off i with
    | some o => if o + (cellsOf v).length ≤ c.length then fillA off r (layL c o (cellsOf v)) else none
    | none => none
theorem fillStruct_eq {β : Type} (fs : List Field) : ∀ (ps : List (Nat × Value)) (c : List Value) (f : β) (k : List Value → β),
    fillStruct fs ps c f k = match fillA (fun i => (fs[i]?).map (·.offset)) ps c with | some c' => k c' | none => f
  | [], c, f, k => rfl
  | (i, v) :: r, c, f, k => by
    simp only [fillStruct, lnth_eq, fillA]
    cases fs[i]? with
    | none => rfl
    | some fd =>
      simp only [loverK_eq, Option.map_some]
      by_cases hl : fd.offset + (cellsOf v).length ≤ c.length
      · rw [if_pos hl, if_pos hl]; exact fillStruct_eq fs r _ f k
      · rw [if_neg hl, if_neg hl]
theorem fillArray_eq {β : Type} (s : Nat) : ∀ (ps : List (Nat × Value)) (c : List Value) (f : β) (k : List Value → β),
    fillArray s ps c f k = match fillA (fun i => some (i * s)) ps c with | some c' => k c' | none => f
  | [], c, f, k => rfl
  | (i, v) :: r, c, f, k => by
    simp only [fillArray, fillA, loverK_eq, natMul]
    by_cases hl : i * s + (cellsOf v).length ≤ c.length
    · rw [if_pos hl, if_pos hl]; exact fillArray_eq s r _ f k
    · rw [if_neg hl, if_neg hl]

theorem foldl_lay (off : Nat) : ∀ (vs : List Value) (k : Nat) (cs : Array Value), off + k + vs.length ≤ cs.size →
    (vs.zipIdx k).foldl (fun cs (x : Value × Nat) => cs.setIfInBounds (off + x.2) x.1) cs = lay cs (off + k) vs
  | [], k, cs, h => by simp [lay_nil]
  | v :: vs, k, cs, h => by
    simp only [List.zipIdx_cons, List.foldl_cons]
    simp only [List.length_cons] at h
    rw [foldl_lay off vs (k + 1) _ (by simp; omega), show off + (k + 1) = off + k + 1 by omega, lay_cons _ _ _ _ (by omega)]
theorem fold_lay (off : Nat) (vs : Array Value) (cs : Array Value) (h : off + vs.size ≤ cs.size) :
    vs.zipIdx.foldl (fun cs (c, j) => cs.setIfInBounds (off + j) c) cs = lay cs off vs.toList := by
  have := foldl_lay off vs.toList 0 cs (by simpa using h)
  rw [← Array.foldl_toList, Array.toList_zipIdx]
  simpa using this

/-- the parts of an aggregate -/
inductive PRs (ρ : Rho) : List (Nat × Value) → List (Nat × Value) → Prop
  | nil : PRs ρ [] []
  | cons {i : Nat} {x y : Value} {xs ys : List (Nat × Value)} : VR ρ x y → PRs ρ xs ys → PRs ρ ((i, x) :: xs) ((i, y) :: ys)

theorem fill_rel {ρ : Rho} {off : Nat → Option Nat} {place : Nat → Option (Nat × Nat)} : ∀ {ps ps' : List (Nat × Value)} {c c' : List Value} {cr : Array Value}, PRs ρ ps ps' →
    (∀ i v, (i, v) ∈ ps → ∀ o, off i = some o → place i = some (o, (cellsOf v).length)) → VRs ρ c cr.toList → fillA off ps c = some c' →
    ∃ cr', Instr.fill place cr ps' = some cr' ∧ VRs ρ c' cr'.toList
  | _, _, c, c', cr, .nil, hp, hc, hf => by simp only [fillA, Option.some.injEq] at hf; subst hf; exact ⟨cr, rfl, hc⟩
  | _, _, c, c', cr, @PRs.cons _ i x y xs ys hv hs, hp, hc, hf => by
    simp only [fillA] at hf
    split at hf
    · rename_i o ho
      split at hf
      · rename_i hl
        have hpl := hp i x (by simp) o ho
        have hcs := VRs.cellsOf hv
        have hsz : y.cells.size = (cellsOf x).length := by have := hcs.1; simp at this; omega
        have hcl : c.length = cr.size := by have := hc.1; simpa using this
        have hlay : VRs ρ (layL c o (cellsOf x)) (lay cr o y.cells.toList).toList := by
          simp only [layL, lay]
          have e : y.cells.toList.length = (cellsOf x).length := by simpa using hsz
          rw [e]
          exact VRs.append (VRs.append (VRs.take hc _) hcs) (VRs.drop hc _)
        obtain ⟨cr', g1, g2⟩ := fill_rel hs (fun i v hm => hp i v (by simp [hm])) hlay hf
        refine ⟨cr', ?_, g2⟩
        simp only [Instr.fill, hpl]
        rw [if_neg (by simp; omega), fold_lay _ _ _ (by omega)]
        exact g1
      · simp at hf
    · simp at hf
end Go.Am
end
section
set_option linter.unusedVariables false
namespace Go.Am
open Go Go.RowKit

theorem newK_eq {β : Type} (o : Ob) (h : T Ob) (n : Nat) (f : β) (k : Nat → T Ob → Nat → β) : newK o h n f k = match h.put n o with | some h' => k n h' (n + 1) | none => f := by
  simp only [newK, T.setK_eq, natK_eq]; cases h.put n o <;> rfl

section
variable {P : Program} {A : AP} {ρ : Rho} {h : T Ob} {n B : Nat} {w0 w : World}

theorem Sim.congr {x : Res} {s s' : Sem Next} (he : s.run P w = s'.run P w) (hs : Sim P ρ h n B w0 w x s') : Sim P ρ h n B w0 w x s := by
  unfold Sim; rw [he]; exact hs

/-- new cells in both -/
theorem new_cells (hw : WR P ρ h n B w0 w) {c : List Value} {cr : Array Value} {el : TypeId} {lo hi : Nat} {h' : T Ob} (hp : h.put n (.cells c el lo hi) = some h')
    (hl : c.length ≤ cr.size) (hc : ∀ (i : Nat) (x : Value), c[i]? = some x → ∃ y, cr[i]? = some y ∧ VR ρ x y) :
    (newRow el cr).run P w = .ok ⟨w.heap.size, 0, none⟩ { w with heap := w.heap.push (.cells cr el) } ∧
    WR P (ρ.add n ⟨w.heap.size, cr.size, P.cellsOf el⟩) h' (n + 1) B w0 { w with heap := w.heap.push (.cells cr el) } := by
  refine ⟨by simp [newRow], hw.new rfl hp ?_⟩
  exact ⟨cr, 0, 0, by simp, rfl, rfl, hl, fun i x hx => let ⟨y, hy, hv⟩ := hc i x hx; ⟨y, hy, hv.ext (hw.ext_add _).1⟩, Nat.le_refl _, fun i _ hi => absurd hi (Nat.not_lt_zero i)⟩

theorem VRs.some_all {ρ : Rho} {c : List Value} {cr : Array Value} (hc : VRs ρ c cr.toList) : c.length ≤ cr.size ∧ ∀ (i : Nat) (x : Value), c[i]? = some x → ∃ y, cr[i]? = some y ∧ VR ρ x y := by
  refine ⟨by have := hc.1; simp at this; omega, fun i x hx => ?_⟩
  obtain ⟨y, hy, hv⟩ := hc.get hx
  exact ⟨y, by simpa using hy, hv⟩

theorem sim_newPtr (hw : WR P ρ h n B w0 w) {c : List Value} {cr : Array Value} {el : TypeId} {why : Nat} (hc : VRs ρ c cr.toList) :
    Sim P ρ h n B w0 w (newK (.cells c el 0 0) h n (.fail why) fun b h' n' => .ok (.value (.pointer (some ⟨b, 0, none⟩))) h' n') (asNext (do pure (.pointer (some (← newRow el cr))))) := by
  rw [newK_eq]
  split
  · rename_i h' hp
    obtain ⟨g1, g2⟩ := new_cells hw hp hc.some_all.1 hc.some_all.2
    intro r h2 n2 hr
    simp only [Res.ok.injEq] at hr
    obtain ⟨rfl, rfl, rfl⟩ := hr
    exact .inr ⟨.value (.pointer (some ⟨w.heap.size, 0, none⟩)), _, _, by simp [asNext, g1], hw.ext_add _, by omega, g2, .value (.ptr (e := ⟨w.heap.size, cr.size, P.cellsOf el⟩) (Rho.add_self _ _ _))⟩
  · exact Sim.fail

theorem sim_xAlloc (hA : APOk P A) (hw : WR P ρ h n B w0 w) {tm : T Value} {el : TypeId} : Sim P ρ h n B w0 w (xAlloc el A tm h n) (asNext (Instr.alloc el true (.tuple #[]))) := by
  unfold xAlloc
  split
  · rename_i z hz
    simp only [cellsK_eq]
    exact Sim.congr (by simp [asNext, Instr.alloc, run_zero hA hz, newVar]) (sim_newPtr hw (cr := z.cells) (VRs.cellsOf (VR.plainV (zero_plain hA hz))))
  · exact Sim.fail

theorem sim_xBox (hw : WR P ρ h n B w0 w) {tm : T Value} {el : TypeId} {x : Operand} {x' : Value} (hx : VR ρ (ev tm x) x') :
    Sim P ρ h n B w0 w (xBox el x A tm h n) (asNext (Instr.box el x')) := by
  unfold xBox
  simp only [evK_eq, cellsK_eq]
  exact Sim.congr (by simp [asNext, Instr.box, newVar]) (sim_newPtr hw (cr := x'.cells) (VRs.cellsOf hx))

/-! parts, lists of operands -/
theorem mapPartsK_eq {β : Type} (tm : T Value) : ∀ (l : List (Nat × Operand)) (k : List (Nat × Value) → β), mapPartsK tm l k = k (l.map fun p => (p.1, ev tm p.2))
  | [], k => rfl
  | (i, x) :: xs, k => by simp [mapPartsK, mapPartsK_eq tm xs]
theorem mapOpsK_eq {β : Type} (tm : T Value) : ∀ (l : List Operand) (k : List Value → β), mapOpsK tm l k = k (l.map (ev tm))
  | [], k => rfl
  | x :: xs, k => by simp [mapOpsK, mapOpsK_eq tm xs]
theorem parts_rel {ρ : Rho} {tm : T Value} {rv : Operand → Value} : ∀ (l : List (Nat × Operand)), (∀ p ∈ l, VR ρ (ev tm p.2) (rv p.2)) → PRs ρ (l.map fun p => (p.1, ev tm p.2)) (l.map fun p => (p.1, rv p.2))
  | [], _ => .nil
  | (i, x) :: xs, h => .cons (h (i, x) (by simp)) (parts_rel xs fun p hp => h p (by simp [hp]))
theorem ops_rel {ρ : Rho} {tm : T Value} {rv : Operand → Value} : ∀ (l : List Operand), (∀ x ∈ l, VR ρ (ev tm x) (rv x)) → VRs ρ (l.map (ev tm)) (l.map rv)
  | [], _ => VRs.nil
  | x :: xs, h => VRs.cons (h x (by simp)) (ops_rel xs fun p hp => h p (by simp [hp]))

theorem fitStruct_mem {fs : List Field} : ∀ {ps : List (Nat × Value)}, fitStruct A fs ps = true → ∀ i v, (i, v) ∈ ps → ∀ fd, fs[i]? = some fd → sizeOfT A fd.type = some (cellsOf v).length
  | [], _, i, v, hm => by simp at hm
  | (j, u) :: r, hf, i, v, hm => by
    intro fd hfd
    simp only [fitStruct, lnth_eq] at hf
    split at hf
    · rename_i fd' hfd'
      split at hf
      · rename_i s hs
        simp only [natBeq, llen_eq, Bool.cond_decide] at hf
        split at hf
        · rename_i hl
          rcases List.mem_cons.1 hm with he | hm'
          · cases he; rw [hfd'] at hfd; cases hfd; rw [hs, hl]
          · exact fitStruct_mem hf i v hm' fd hfd
        · simp at hf
      · simp at hf
    · simp at hf
theorem fitArray_mem {s : Nat} : ∀ {ps : List (Nat × Value)}, fitArray s ps = true → ∀ i v, (i, v) ∈ ps → (cellsOf v).length = s
  | [], _, i, v, hm => by simp at hm
  | (j, u) :: r, hf, i, v, hm => by
    simp only [fitArray, natBeq, llen_eq, Bool.cond_decide] at hf
    split at hf
    · rename_i hl
      rcases List.mem_cons.1 hm with he | hm'
      · cases he; exact hl
      · exact fitArray_mem hf i v hm'
    · simp at hf
theorem run_places (hA : APOk P A) : ∀ (fs : List Field), sizesKnown A fs = true → (fs.mapM (m := Sem) fun (f : Field) => do pure (f.offset, ← sizeOf f.type)).run P w = .ok (fs.map fun f => (f.offset, P.cellsOf f.type)) w
  | [], _ => by simp
  | f :: fs, hk => by
    simp only [sizesKnown] at hk
    split at hk
    · rename_i s hs
      have := run_places hA fs hk
      simp only [List.mapM_cons, Sem.run_bind, run_sizeOf hA hs, Result.andThen_ok, Sem.run_pure, this, List.map_cons, cellsOf_some hA hs]
    · simp at hk

theorem sim_buildV (hA : APOk P A) {t : TypeId} {ps ps' : List (Nat × Value)} (hp : PRs ρ ps ps') : SimV P ρ w (buildV A t ps none some) (Instr.build t ps'.toArray) := by
  intro v hv
  unfold buildV at hv
  split at hv
  · rename_i z hz
    have hzr : VRs ρ (cellsOf z) z.cells.toList := VRs.cellsOf (VR.plainV (zero_plain hA hz))
    split at hv
    · rename_i fs hu
      cases hk : sizesKnown A fs.toList && fitStruct A fs.toList ps with
      | false => simp [hk] at hv
      | true =>
        simp only [hk, cond_true, fillStruct_eq] at hv
        simp only [Bool.and_eq_true] at hk
        split at hv
        · rename_i c hc
          simp only [Option.some.injEq] at hv
          subst hv
          have hpl := run_places (w := w) hA fs.toList hk.1
          obtain ⟨cr, g1, g2⟩ := fill_rel (place := fun i => ((fs.toList.map fun f => (f.offset, P.cellsOf f.type)).toArray)[i]?) hp (by
            intro i v hm o ho
            cases hfi : fs.toList[i]? with
            | none => simp [hfi] at ho
            | some fd =>
              rw [hfi] at ho
              simp only [Option.map_some, Option.some.injEq] at ho
              have := cellsOf_some hA (fitStruct_mem hk.2 i v hm fd hfi)
              have hfi' : fs[i]? = some fd := by simpa using hfi
              simp [hfi', ← ho, this]) hzr hc
          refine ⟨.agg cr, ?_, by simpa using VRs.toAgg g2⟩
          have hpl' : (fs.mapM (m := Sem) fun (f : Field) => do pure (f.offset, ← sizeOf f.type)).run P w = .ok ((fs.toList.map fun f => (f.offset, P.cellsOf f.type)).toArray) w := by
            rw [Array.mapM_eq_mapM_toList, Sem.run_map, hpl]; rfl
          simp only [Instr.build, Sem.run_bind, run_zero hA hz, Result.andThen_ok, run_under hA hu, hpl']
          rw [g1]
          rfl
        · simp at hv
    · rename_i len el hu
      split at hv
      · rename_i s hs
        cases hk : fitArray s ps with
        | false => simp [hk] at hv
        | true =>
          simp only [hk, cond_true, fillArray_eq] at hv
          split at hv
          · rename_i c hc
            simp only [Option.some.injEq] at hv
            subst hv
            obtain ⟨cr, g1, g2⟩ := fill_rel (place := fun i => some (i * s, s)) hp (by
              intro i v hm o ho
              simp only [Option.some.injEq] at ho
              rw [← ho, fitArray_mem hk i v hm]) hzr hc
            refine ⟨.agg cr, ?_, by simpa using VRs.toAgg g2⟩
            simp only [Instr.build, Sem.run_bind, run_zero hA hz, Result.andThen_ok, run_under hA hu, run_sizeOf hA hs]
            rw [g1]
            rfl
          · simp at hv
      · simp at hv
    · simp at hv
  · simp at hv

theorem sim_xBuild (hA : APOk P A) (hw : WR P ρ h n B w0 w) {tm : T Value} {rv : Operand → Value} {t : TypeId} {ps : Array (Nat × Operand)} (hx : ∀ p ∈ ps.toList, VR ρ (ev tm p.2) (rv p.2)) :
    Sim P ρ h n B w0 w (xBuild t ps A tm h n) (asNext (Instr.build t (ps.map fun p => (p.1, rv p.2)))) := by
  unfold xBuild
  rw [mapPartsK_eq]
  have := sim_buildV (w := w) hA (t := t) (parts_rel ps.toList hx)
  have e : (ps.map fun p => (p.1, rv p.2)) = (ps.toList.map fun p => (p.1, rv p.2)).toArray := Array.toList_inj.1 (by rw [Array.toList_map])
  rw [e]
  exact Sim.ofV hw this
end
end Go.Am
end
section
set_option linter.unusedVariables false
namespace Go.Am
open Go Go.RowKit

theorem range_rep {s : Nat} (z : Array Value) (hz : z.size = s) : ∀ len, ((Array.range (len * s)).map (z[· % z.size]!)).toList = (List.replicate len z.toList).flatten := by
  intro len
  induction len with
  | zero => simp
  | succ len ih =>
    rw [List.replicate_succ', List.flatten_append, ← ih]
    have he : (len + 1) * s = len * s + s := Nat.succ_mul len s
    simp only [Array.toList_map, Array.toList_range] at ih ⊢
    rw [he, List.range_add, List.map_append]
    congr 1
    rw [List.map_map]
    apply List.ext_getElem
    · simp [hz]
    · intro i h1 h2
      have hi : i < s := by simpa using h1
      have hm : (len * s + i) % z.size = i := by rw [hz, Nat.mul_add_mod_self_right, Nat.mod_eq_of_lt hi]
      simp [hz, Nat.mod_eq_of_lt hi, hi]

section
variable {P : Program} {A : AP} {ρ : Rho} {h : T Ob} {n B : Nat} {w0 w : World}

theorem sim_newSlice (hw : WR P ρ h n B w0 w) {c : List Value} {cr : Array Value} {el : TypeId} {why l cap : Nat} (hcap : cap < LOOSE) (hc : VRs ρ c cr.toList) :
    Sim P ρ h n B w0 w (newK (.cells c el 0 0) h n (.fail why) fun b h' n' => .ok (.value (.slice (some ⟨b, 0, none⟩) l cap)) h' n') (asNext (do pure (.slice (some (← newRow el cr)) l cap))) := by
  rw [newK_eq]
  split
  · rename_i h' hp
    obtain ⟨g1, g2⟩ := new_cells hw hp hc.some_all.1 hc.some_all.2
    intro r h2 n2 hr
    simp only [Res.ok.injEq] at hr
    obtain ⟨rfl, rfl, rfl⟩ := hr
    exact .inr ⟨.value (.slice (some ⟨w.heap.size, 0, none⟩) l cap), _, _, by simp [asNext, g1], hw.ext_add _, by omega, g2, .value (.slice (e := ⟨w.heap.size, cr.size, P.cellsOf el⟩) (Rho.add_self _ _ _) hcap)⟩
  · exact Sim.fail

/-- zero cells, so many times -/
theorem zeros_rel {z : Value} {s len : Nat} (hp : plainV z = true) (hs : (cellsOf z).length = s) :
    VRs ρ (List.replicate len (cellsOf z)).flatten ((Array.range (len * s)).map (z.cells[· % z.cells.size]!)).toList := by
  rw [range_rep z.cells (by rw [← cells_length, hs])]
  exact VRs.replicate (VRs.cellsOf (VR.plainV hp)) len

theorem sim_xBuildSlice (hA : APOk P A) (hw : WR P ρ h n B w0 w) {tm : T Value} {rv : Operand → Value} {t : TypeId} {len : Nat} {ps : Array (Nat × Operand)} (hx : ∀ p ∈ ps.toList, VR ρ (ev tm p.2) (rv p.2)) :
    Sim P ρ h n B w0 w (xBuildSlice t len ps A tm h n) (asNext (Instr.buildSlice t len (ps.map fun p => (p.1, rv p.2)))) := by
  unfold xBuildSlice
  rw [mapPartsK_eq]
  have e : (ps.map fun p => (p.1, rv p.2)) = (ps.toList.map fun p => (p.1, rv p.2)).toArray := Array.toList_inj.1 (by rw [Array.toList_map])
  rw [e]
  have hp := parts_rel ps.toList hx
  generalize (ps.toList.map fun p => (p.1, ev tm p.2)) = qs at hp
  generalize (ps.toList.map fun p => (p.1, rv p.2)) = qs' at hp
  split
  · rename_i el hu
    split
    · rename_i s hs
      split
      · rename_i z hz
        cases hk : ((Nat.blt len LOOSE && Nat.ble (Nat.mul len s) 16777216) && (Nat.beq (llen (cellsOf z)) s && fitArray s qs)) with
        | false => simp only [cond_false]; exact Sim.fail
        | true =>
          simp only [cond_true, repK_eq, fillArray_eq, List.append_nil]
          simp only [Bool.and_eq_true, natBle, natBlt, natBeq, llen_eq, natMul, decide_eq_true_eq] at hk
          obtain ⟨⟨hk0, hk1⟩, hk2, hk3⟩ := hk
          split
          · rename_i c hc
            obtain ⟨cr, g1, g2⟩ := fill_rel (place := fun i => some (i * s, s)) hp (by
              intro i v hm o ho
              simp only [Option.some.injEq] at ho
              rw [← ho, fitArray_mem hk3 i v hm]) (zeros_rel (ρ := ρ) (len := len) (zero_plain hA hz) hk2) hc
            refine Sim.congr ?_ (sim_newSlice hw (el := el) (why := 124) (l := len) (cap := len) ?_ g2)
            · have hlim : ¬ (2 ^ 24 < len * s) := by omega
              by_cases h0 : len * s = 0
              · have hr : Array.range 0 = #[] := rfl
                rw [h0, hr, Array.map_empty] at g1
                simp [asNext, Instr.buildSlice, run_under hA hu, run_sizeOf hA hs, h0, hr, g1, newRow]
              · simp [asNext, Instr.buildSlice, run_under hA hu, run_sizeOf hA hs, h0, run_zero hA hz, hlim, g1, newRow]
            · exact hk0
          · exact Sim.fail
      · exact Sim.fail
    · exact Sim.fail
  · exact Sim.fail

theorem sim_xMakeFunc (hw : WR P ρ h n B w0 w) {tm : T Value} {rv : Operand → Value} {fn : Fn} {a b : Array Operand} (ha : ∀ x ∈ a.toList, VR ρ (ev tm x) (rv x)) (hb : ∀ x ∈ b.toList, VR ρ (ev tm x) (rv x)) :
    Sim P ρ h n B w0 w (xMakeFunc fn a b A tm h n) (asNext (Instr.makeFunc fn (a.map rv) (b.map rv))) := by
  unfold xMakeFunc
  split
  · rename_i f
    rw [mapOpsK_eq, mapOpsK_eq]
    have h1 := ops_rel a.toList ha
    have h2 := ops_rel b.toList hb
    refine Sim.val hw (v' := .func (.func f) (a.map rv) (b.map rv)) (by simp [Instr.makeFunc]) ?_
    refine .func f (by simp) (fun i x y hx hy => h1.2 i x y (by simpa using hx) ?_) (by simp) (fun i x y hx hy => h2.2 i x y (by simpa using hx) ?_)
    · simpa using hy
    · simpa using hy
  · exact Sim.fail

/-- a new object that is no row of cells -/
theorem sim_newOb (hw : WR P ρ h n B w0 w) {ob : Ob} {o : Obj} {why : Nat} {va vr : Nat → Value} (hor : ∀ ρ' : Rho, (∀ b e, ρ b = some e → ρ' b = some e) → ∀ heap : Array Obj, heap[w.heap.size]? = some o → OR P ρ' heap ⟨w.heap.size, 0, 0⟩ ob)
    (hv : ∀ ρ' : Rho, ρ' n = some ⟨w.heap.size, 0, 0⟩ → VR ρ' (va n) (vr w.heap.size)) :
    Sim P ρ h n B w0 w (newK ob h n (.fail why) fun b h' n' => .ok (.value (va b)) h' n') (asNext (do pure (vr (← newObj o)))) := by
  rw [newK_eq]
  split
  · rename_i h' hp
    have g2 := hw.new (e := ⟨w.heap.size, 0, 0⟩) (o := o) rfl hp (hor _ (hw.ext_add _).1 _ (by simp))
    intro r h2 n2 hr
    simp only [Res.ok.injEq] at hr
    obtain ⟨rfl, rfl, rfl⟩ := hr
    exact .inr ⟨.value (vr w.heap.size), _, _, by simp [asNext], hw.ext_add _, by omega, g2, .value (hv _ (Rho.add_self _ _ _))⟩
  · exact Sim.fail

theorem sim_xMakeMap (hA : APOk P A) (hw : WR P ρ h n B w0 w) {tm : T Value} {rv : Operand → Value} {t : TypeId} {r : Option Operand} (hr : ∀ x, r = some x → VR ρ (ev tm x) (rv x)) :
    Sim P ρ h n B w0 w (xMakeMap t r A tm h n) (asNext (Instr.makeMap t (r.map rv))) := by
  have key : Sim P ρ h n B w0 w (newK (.map [] 0) h n (.fail 133) fun b h' n' => .ok (.value (.map (some b))) h' n') (asNext (do pure (.map (some (← newObj (.map #[] 0)))))) :=
    sim_newOb hw (va := fun b => .map (some b)) (vr := fun b => .map (some b)) (fun ρ' _ heap hh => ⟨#[], hh, by simp [ERs]⟩) (fun ρ' he => .map (e := ⟨w.heap.size, 0, 0⟩) he)
  unfold xMakeMap
  split
  · exact Sim.congr (by simp [asNext, Instr.makeMap]) key
  · rename_i x
    split
    · rename_i k m hx
      have hx' := hr x rfl
      rw [hx] at hx'
      generalize hrv : rv x = x' at hx'
      cases hx' with
      | int =>
        split
        · rename_i a b hu
          exact Sim.congr (by simp [asNext, Instr.makeMap, run_under hA hu, hrv, asInt, asIntOf]) key
        · exact Sim.fail
    · exact Sim.fail

theorem sim_xRange (hA : APOk P A) (hw : WR P ρ h n B w0 w) {tm : T Value} {t : TypeId} {x : Operand} {x' : Value} (hx : VR ρ (ev tm x) x') :
    Sim P ρ h n B w0 w (xRange t x A tm h n) (asNext (Instr.range t x')) := by
  unfold xRange rangeX
  split
  · rename_i hu
    split
    · rename_i s hs
      rw [hs] at hx
      cases hx
      refine Sim.congr (s' := asNext (do pure (.pointer (some ⟨← newObj (.stringIter s 0), 0, none⟩)))) (by simp [asNext, Instr.range, run_under hA hu]) ?_
      exact sim_newOb hw (va := fun b => .pointer (some ⟨b, 0, none⟩)) (vr := fun b => .pointer (some ⟨b, 0, none⟩)) (fun ρ' _ heap hh => hh) (fun ρ' he => .ptr (e := ⟨w.heap.size, 0, 0⟩) he)
    · exact Sim.fail
  · rename_i k e hu
    split
    · rename_i hs
      rw [hs] at hx
      cases hx
      refine Sim.congr (s' := asNext (do pure (.pointer (some ⟨← newObj (.mapIter none 0 #[] 0), 0, none⟩)))) (by simp [asNext, Instr.range, run_under hA hu]) ?_
      exact sim_newOb hw (va := fun b => .pointer (some ⟨b, 0, none⟩)) (vr := fun b => .pointer (some ⟨b, 0, none⟩)) (fun ρ' _ heap hh => ⟨none, hh, .nilMap⟩) (fun ρ' he => .ptr (e := ⟨w.heap.size, 0, 0⟩) he)
    · rename_i m hs
      rw [hs] at hx
      cases hx with
      | @map b e he =>
        split
        · rename_i es clock hm
          obtain ⟨er, h1, h2⟩ := hw.live m _ hm e he
          refine Sim.congr (s' := asNext (do pure (.pointer (some ⟨← newObj (.mapIter (some e.r) clock #[] clock), 0, none⟩)))) ?_ ?_
          · have hg : (getObj e.r).run P w = .ok (.map er clock) w := by simp [getObj, Sem.run, h1]
            simp [asNext, Instr.range, run_under hA hu, hg]
          · exact sim_newOb hw (va := fun b => .pointer (some ⟨b, 0, none⟩)) (vr := fun b => .pointer (some ⟨b, 0, none⟩)) (fun ρ' hρ heap hh => ⟨some e.r, hh, .map (hρ _ _ he)⟩) (fun ρ' he => .ptr (e := ⟨w.heap.size, 0, 0⟩) he)
        · exact Sim.fail
    · exact Sim.fail
  · exact Sim.fail
end
end Go.Am
end
