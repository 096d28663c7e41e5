/- The listed variables laid. -/
import Derived.Test.YtbofhnjjlbjmcaaGreatDoorName
set_option linter.unusedVariables false
set_option linter.unusedSimpArgs false
namespace Go.Proofs.YtbofhnjjlbjmcaaGreatDoor
open Go
set_option maxRecDepth 100000
theorem lay_append (P : Program) : ∀ (a b : List (String × DataW Unit)) (n : Nat) (y z : List (Nat × List Value) × List Obj), Lay.layList P n a = some y → Lay.layList P (n + y.2.length) b = some z → Lay.layList P n (a ++ b) = some (y.1 ++ z.1, y.2 ++ z.2)
  | [], b, n, y, z, ha, hb => by
    unfold Lay.layList at ha
    cases ha
    simpa using hb
  | x :: r, b, n, y, z, ha, hb => by
    unfold Lay.layList at ha
    rw [List.cons_append]
    unfold Lay.layList
    cases hg : P.globalNamed x.1 with
    | none => rw [hg] at ha; cases ha
    | some g =>
      rw [hg] at ha
      dsimp only at ha ⊢
      cases hl : P.globals[g]? with
      | none => rw [hl] at ha; cases ha
      | some gl =>
        rw [hl] at ha
        dsimp only at ha ⊢
        cases hd : x.2.lay P gl.type n with
        | none => rw [hd] at ha; cases ha
        | some d =>
          rw [hd] at ha
          dsimp only at ha ⊢
          cases hr : Lay.layList P (n + d.2.length) r with
          | none => rw [hr] at ha; cases ha
          | some q =>
            rw [hr] at ha
            cases ha
            rw [lay_append P r b (n + d.2.length) q z hr (by simpa [Nat.add_assoc] using hb)]
            simp
theorem lay_one (P : Program) (nm : String) (D : DataW Unit) (n g t : Nat) (d : List Value × List Obj) (hg : P.globalNamed nm = some g) (hl : (P.globals[g]?).map (fun gl => gl.type) = some t) (hd : D.lay P t n = some d) : Lay.layList P n [(nm, D)] = some ([(g, d.1)], d.2) := by
  unfold Lay.layList
  dsimp only
  rw [hg]
  dsimp only
  cases hv : P.globals[g]? with
  | none => rw [hv] at hl; cases hl
  | some gl =>
    rw [hv] at hl
    cases hl
    dsimp only
    rw [hd]
    dsimp only
    unfold Lay.layList
    simp
theorem lay_iface (P : Program) (t n u : Nat) (name : String) (d : DataW Unit) (ms : Array (String × TypeId)) (x : List Value × List Obj) (v : Value) (hu : P.underlying t = some (.interface ms))
    (hf : (List.range P.types.size).find? (fun u => P.typeName? 3 u == some name) = some u) (hx : d.lay P u n = some x) (hp : Lay.pack P u x.1 = some v) :
    DataW.lay P t n (.iface name d) = some ([.iface u v], x.2) := by
  unfold DataW.lay
  rw [hu, hf]
  dsimp only
  rw [hx]
  dsimp only
  rw [hp]
theorem some_getD {α : Type} {o : Option α} (d : α) (h : o.isSome = true) : o = some (o.getD d) := by
  cases o with
  | none => cases h
  | some x => rfl
noncomputable def partA : List (String × DataW Unit) := Rows.serverNoneRow.laid.take 10
noncomputable def partC : List (String × DataW Unit) := Rows.serverNoneRow.laid.drop 12
noncomputable def laidA : List (Nat × List Value) × List Obj := (Lay.layList Tryz.prog 23 partA).getD ([], [])
theorem lay_A : Lay.layList Tryz.prog 23 partA = some laidA := some_getD _ (by kernel_rfl)
theorem lenA : laidA.2.length = 3 := by kernel_rfl
noncomputable abbrev rangeBytes : List UInt8 := [118, 97, 108, 117, 101, 32, 111, 117, 116, 32, 111, 102, 32, 114, 97, 110, 103, 101]
noncomputable abbrev syntaxBytes : List UInt8 := [105, 110, 118, 97, 108, 105, 100, 32, 115, 121, 110, 116, 97, 120]
theorem lay_err1 (n : Nat) : DataW.lay Tryz.prog 283 n (.iface "*errors.errorString" (.ptr (.agg [.lit (.string rangeBytes)]))) = some ([.iface 719 (.pointer (some ⟨n, 0, none⟩))], [.cells #[.string ⟨rangeBytes.toArray⟩] 721]) :=
  lay_iface Tryz.prog 283 n 719 "*errors.errorString" (.ptr (.agg [.lit (.string rangeBytes)])) _ ([.pointer (some ⟨n, 0, none⟩)], [.cells #[.string ⟨rangeBytes.toArray⟩] 721]) (.pointer (some ⟨n, 0, none⟩)) Tryz.underlying283 found (by kernel_rfl) (by kernel_rfl)
theorem lay_err2 (n : Nat) : DataW.lay Tryz.prog 283 n (.iface "*errors.errorString" (.ptr (.agg [.lit (.string syntaxBytes)]))) = some ([.iface 719 (.pointer (some ⟨n, 0, none⟩))], [.cells #[.string ⟨syntaxBytes.toArray⟩] 721]) :=
  lay_iface Tryz.prog 283 n 719 "*errors.errorString" (.ptr (.agg [.lit (.string syntaxBytes)])) _ ([.pointer (some ⟨n, 0, none⟩)], [.cells #[.string ⟨syntaxBytes.toArray⟩] 721]) (.pointer (some ⟨n, 0, none⟩)) Tryz.underlying283 found (by kernel_rfl) (by kernel_rfl)
theorem lay_B1 : Lay.layList Tryz.prog 26 [("strconv.ErrRange", Rows.laid_strconv_ErrRange)] = some ([(2, [.iface 719 (.pointer (some ⟨26, 0, none⟩))])], [.cells #[.string ⟨rangeBytes.toArray⟩] 721]) := by
  unfold Rows.laid_strconv_ErrRange
  exact lay_one Tryz.prog "strconv.ErrRange" _ 26 2 283 _ (by kernel_rfl) (by kernel_rfl) (lay_err1 26)
theorem lay_B2 : Lay.layList Tryz.prog 27 [("strconv.ErrSyntax", Rows.laid_strconv_ErrSyntax)] = some ([(1, [.iface 719 (.pointer (some ⟨27, 0, none⟩))])], [.cells #[.string ⟨syntaxBytes.toArray⟩] 721]) := by
  unfold Rows.laid_strconv_ErrSyntax
  exact lay_one Tryz.prog "strconv.ErrSyntax" _ 27 1 283 _ (by kernel_rfl) (by kernel_rfl) (lay_err2 27)
noncomputable def laidC : List (Nat × List Value) × List Obj := (Lay.layList Tryz.prog 28 partC).getD ([], [])
theorem lay_C : Lay.layList Tryz.prog 28 partC = some laidC := some_getD _ (by kernel_rfl)
noncomputable def laidY : List (Nat × List Value) × List Obj :=
  (laidA.1 ++ ([(2, [.iface 719 (.pointer (some ⟨26, 0, none⟩))])] ++ ([(1, [.iface 719 (.pointer (some ⟨27, 0, none⟩))])] ++ laidC.1)),
   laidA.2 ++ ([.cells #[.string ⟨rangeBytes.toArray⟩] 721] ++ ([.cells #[.string ⟨syntaxBytes.toArray⟩] 721] ++ laidC.2)))
theorem laid_parts : Rows.serverNoneRow.laid = partA ++ ([("strconv.ErrRange", Rows.laid_strconv_ErrRange)] ++ ([("strconv.ErrSyntax", Rows.laid_strconv_ErrSyntax)] ++ partC)) := by kernel_rfl
theorem lay_all : Lay.layList Tryz.prog 23 Rows.serverNoneRow.laid = some laidY := by
  rw [laid_parts]
  exact lay_append Tryz.prog _ _ 23 laidA _ lay_A (by rw [lenA]; exact lay_append Tryz.prog _ _ 26 _ _ lay_B1 (lay_append Tryz.prog _ _ 27 _ _ lay_B2 lay_C))
end Go.Proofs.YtbofhnjjlbjmcaaGreatDoor
