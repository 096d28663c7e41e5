/- All operations joined; the machine's steps, part 2. -/
import Derived.Test.YtbofhnjjlbjmcaaGreatDoorAmD
import Derived.Test.YtbofhnjjlbjmcaaGreatDoorAmE
set_option linter.unusedVariables false
set_option linter.unusedSimpArgs false
section
set_option linter.unusedVariables false
namespace Go.Am
open Go Go.RowKit

section
variable {P : Program} {A : AP} {ρ : Rho} {h h' : T Ob} {n B : Nat} {w0 w : World}

theorem Sim.bindPure {x : Res} {α : Type} {s : Sem α} {a : α} {f : α → Sem Next} (hs : s.run P w = .ok a w) (hf : Sim P ρ h n B w0 w x (f a)) : Sim P ρ h n B w0 w x (s >>= f) :=
  Sim.congr (by rw [Sem.run_bind, hs]; rfl) hf

theorem method_run (hA : APOk P A) {t : TypeId} {i : TypeInfo} (hi : A.types.get t = some i) {name nm : String} {sg : TypeId} {f : FuncId} {byPtr : Bool} (hf : i.methods.toList.find? (fun m => m.name == name) = some ⟨nm, sg, ⟨[]⟩, some (f, byPtr)⟩) {v r : Value}
    (hr : (receiverAt t (.val v) byPtr (some ((name.splitOn ".").getLastD name))).run P w = .ok r w) : (method (P.types.size + Made.depth) t v name).run P w = .ok (f, r) w := by
  have hd : ∃ k, P.types.size + Made.depth = k + 1 := ⟨P.types.size + 99, rfl⟩
  obtain ⟨k, hk⟩ := hd
  rw [hk]
  have hti : (typeInfo t).run P w = .ok i w := by simp [typeInfo, hA.types _ _ hi]
  have hf' : i.methods.find? (fun m => m.name == name) = some ⟨nm, sg, ⟨[]⟩, some (f, byPtr)⟩ := by rw [← Array.find?_toList]; exact hf
  simp only [method, Sem.run_bind, hti, Result.andThen_ok, hf']
  show ((Sem.run P (receiverAt t (.val v) byPtr (some ((name.splitOn ".").getLastD name))) w).andThen fun a w' => Sem.run P (pure (f, a)) w') = _
  rw [hr]
  rfl

theorem sim_callMethod (hA : APOk P A) (hS : SumsOk P A) (hw : WR P ρ h n B w0 w) {t : TypeId} {v v' : Value} (hv : VR ρ v v') {name : String} {args : List Value} {args' : Array Value} (ha : VRs ρ args args'.toList) :
    Sim P ρ h n B w0 w (Am.callMethod A t v name args h n) (Go.callMethod (.iface t v') name args') := by
  have key : ∀ {f : FuncId} {x r : Value}, (method (P.types.size + Made.depth) t v' name).run P w = .ok (f, r) w → VR ρ x r → Sim P ρ h n B w0 w (callFn A f (x :: args) h n) (Go.callMethod (.iface t v') name args') := by
    intro f x r hm hx
    refine Sim.congr (s' := callFunc f (#[r] ++ args')) ?_ (sim_callFn hA hS hw ?_)
    · unfold Go.callMethod
      simp only [Sem.run_bind, run_program, Result.andThen_ok, hm]
    · rw [Array.toList_append]; exact VRs.cons hx ha
  unfold Am.callMethod
  split
  · exact Sim.fail
  · rename_i i hi
    split
    · rename_i nm sg f byPtr hf
      split
      · rename_i el hu
        cases byPtr with
        | true =>
          rw [cond_true]
          refine key (method_run hA hi hf ?_) hv
          unfold receiverAt
          rw [Sem.run_bind, run_under hA hu]
          rfl
        | false =>
          rw [cond_false]
          split
          · rename_i a
            have hv2 := hv
            cases hv2 with
            | @ptr b o e he =>
              have hl := sim_loadK (P := P) hA hw (VR.ptr (o := o) he) (t := el)
              -- the value behind the pointer
              have hmap : loadK A el ⟨b, o, none⟩ h (Res.fail 87) (fun x => callFn A f (x :: args) h n) = match loadK A el ⟨b, o, none⟩ h none some with | some x => callFn A f (x :: args) h n | none => Res.fail 87 := by
                simp only [loadK]
                split
                · split
                  · split
                    · unfold loadCells
                      rename_i agg _ _ _ _
                      cases agg with
                      | true => simp only [cond_true, ltakeK_eq]; split <;> rfl
                      | false =>
                        simp only [cond_false, vK_eq]
                        split <;> rfl
                    · rfl
                  · rfl
                · rfl
              rw [hmap]
              split
              · rename_i x hx
                obtain ⟨x', g1, g2⟩ := hl x hx
                refine key (method_run hA hi hf ?_) g2
                unfold receiverAt
                rw [Sem.run_bind, run_under hA hu, Result.andThen_ok]
                have hss : ∀ m, (Builtin.ssaWrapNilChk_ #[t] t #[.pointer (some ⟨e.r, o, none⟩), strVal "", strVal m]).run P w = .ok (.pointer (some ⟨e.r, o, none⟩)) w := fun m => rfl
                show Sem.run P (pure (Value.pointer (some ⟨e.r, o, none⟩)) >>= _) w = _
                rw [Sem.run_bind]
                show Sem.run P (Builtin.ssaWrapNilChk_ #[t] t #[.pointer (some ⟨e.r, o, none⟩), strVal "", strVal _] >>= _) w = _
                rw [Sem.run_bind, hss, Result.andThen_ok]
                show Sem.run P (loadVar el ⟨e.r, o, none⟩) w = _
                exact g1
              · exact Sim.fail
          · exact Sim.fail
      · rename_i d hno hu
        cases byPtr with
        | true => exact Sim.fail
        | false =>
          rw [cond_false]
          refine key (method_run hA hi hf ?_) hv
          unfold receiverAt
          rw [Sem.run_bind, run_under hA hu, Result.andThen_ok]
          cases d <;> first | rfl | exact absurd rfl (hno _)
      · exact Sim.fail
    · exact Sim.fail

/-! a round of a loop over a function -/
theorem allBelow_cons {nt : Nat} {t : Tmp} {ts : List Tmp} (h : allBelow nt (t :: ts) = true) : t < nt ∧ allBelow nt ts = true := by
  simp only [allBelow] at h
  cases hb : Nat.blt t nt with
  | false => rw [hb] at h; simp at h
  | true =>
    rw [hb, cond_true] at h
    rw [natBlt] at hb
    exact ⟨of_decide_eq_true hb, h⟩
theorem setParams_rel {nt : Nat} {β : Type} {f : β} {k : T Value → β} : ∀ {ts : List Tmp} {vs vs' : List Value} {tm : T Value} {tr : Array Value}, TRx ρ [] tm nt tr → allBelow nt ts = true → VRs ρ vs vs' →
    setParams tm ts vs f k = f ∨ ∃ tm', setParams tm ts vs f k = k tm' ∧ ts.length = vs'.length ∧ TRx ρ [] tm' nt ((ts.zip vs').foldl (fun tmps (x : Tmp × Value) => tmps.setIfInBounds x.1 x.2) tr)
  | [], [], vs', tm, tr, ht, _, hv => by
    rw [VRs.of_nil hv]
    exact .inr ⟨tm, rfl, rfl, ht⟩
  | t :: ts, v :: vs, vs', tm, tr, ht, hb, hv => by
    obtain ⟨y, ys, rfl, h1, h2⟩ := VRs.of_cons hv
    obtain ⟨hb1, hb2⟩ := allBelow_cons hb
    unfold setParams
    rw [T.setK_eq]
    cases hp : tm.put t v with
    | none => exact .inl rfl
    | some tm1 =>
      have ht1 := ht.set (fun _ _ h => h) h1 hb1 hp
      rcases setParams_rel (f := f) (k := k) ht1 hb2 h2 with h3 | ⟨tm', h3, h4, h5⟩
      · exact .inl h3
      · exact .inr ⟨tm', h3, by simp [h4], h5⟩
  | [], v :: vs, vs', tm, tr, _, _, _ => .inl (by simp [setParams])
  | t :: ts, [], vs', tm, tr, _, _, _ => .inl (by simp [setParams])

theorem sim_callYield (hw : WR P ρ h n B w0 w) {l : Nat} {e : Ent} (he : ρ l = some e) {args : List Value} {args' : Array Value} (ha : VRs ρ args args'.toList) :
    Sim P ρ h n B w0 w (callYield l args h n) (Instr.yield e.r args') := by
  unfold callYield
  split
  · rename_i st pd fn tm nt ps asg body d hl
    obtain ⟨tr, e', q1, q2, q3, q4, q5, q6⟩ := hw.live l _ hl e he
    cases hb : allBelow nt ps.toList with
    | false => exact Sim.fail
    | true =>
      rw [cond_true]
      rcases setParams_rel (f := Res.fail 91) (k := fun tm' => Res.ok (.round l fn tm' nt asg body) h n) (⟨q2.1, fun t _ => q2.2 t⟩ : TRx ρ [] tm nt tr) hb ha with h3 | ⟨tm', h3, h4, h5⟩
      · rw [h3]; exact Sim.fail
      · rw [h3]
        intro r h2 n2 hr
        simp only [Res.ok.injEq] at hr
        obtain ⟨rfl, rfl, rfl⟩ := hr
        refine .inr ⟨.round e.r fn _ asg body, w, ρ, ?_, Ext.refl _ _, Nat.le_refl _, hw, .round he ⟨h5.1, fun t => h5.2 t (by simp)⟩ q4 q5⟩
        have hgl : (Instr.getLoop e.r).run P w = .ok { state := st, pending := pd, fn := fn, tmps := tr, params := ps, assign := asg, body := body, defers := e'.r } w := by
          simp [Instr.getLoop, run_getOb q1 (by simp)]
        unfold Instr.yield
        rw [Sem.run_bind, hgl, Result.andThen_ok]
        have hsz : ¬ (args'.size ≠ ps.size) := by
          simp only [Array.length_toList] at h4
          omega
        simp only [hsz, if_false]
        rw [Sem.run_pure]
        simp only [Result.ok.injEq, and_true, Next.round.injEq, true_and]
        rw [← Array.foldl_toList, Array.toList_zip]
  · exact Sim.fail

theorem sim_callVal (hA : APOk P A) (hS : SumsOk P A) (hw : WR P ρ h n B w0 w) {f f' : Value} (hf : VR ρ f f') {args : List Value} {args' : Array Value} (ha : VRs ρ args args'.toList) :
    Sim P ρ h n B w0 w (callVal A f args h n) (do let d ← Deferred.ofValue f' args'; invoke d.target d.args) := by
  unfold callVal
  split
  · rename_i fn first cap
    split
    · rename_i g
      rw [lappK_eq, lappK_eq]
      cases hf with
      | @func _ _ _ as' bs' h1 h2 h3 h4 =>
        refine Sim.congr (s' := callFunc g ((as' ++ args') ++ bs')) rfl (sim_callFn hA hS hw ?_)
        have ra : VRs ρ first as'.toList := ⟨by simpa using h1, fun i x y hx hy => h2 i x y (by simpa using hx) (by simpa using hy)⟩
        have rb : VRs ρ cap bs'.toList := ⟨by simpa using h3, fun i x y hx hy => h4 i x y (by simpa using hx) (by simpa using hy)⟩
        have := ra.append (ha.append rb)
        simpa using this
    · rename_i l
      rw [lappK_eq]
      cases hf with
      | @yield _ e he =>
        refine Sim.congr (s' := Instr.yield e.r args') ?_ (sim_callYield hw he ha)
        show (Instr.yield e.r (#[] ++ args')).run P w = _
        rw [Array.empty_append]
    · exact Sim.fail
  · exact Sim.fail

theorem mem_args {callee : Callee} {args : Array Operand} {ts : Array TypeId} {x : Operand} (hx : x ∈ args.toList) : x ∈ (Op.call ⟨callee, args, ts⟩).operands.toList := by
  show x ∈ (_ ++ args).toList
  rw [Array.toList_append]
  exact List.mem_append_right _ hx

theorem sim_xCall (hA : APOk P A) (hS : SumsOk P A) (hw : WR P ρ h n B w0 w) {tm : T Value} {rv : Operand → Value} {c : Call} {ty : TypeId} (hops : ∀ x ∈ (Op.call c).operands.toList, VR ρ (ev tm x) (rv x)) :
    Sim P ρ h n B w0 w (xCall c A tm h n) (do let d ← resolve rv c ty; invoke d.target d.args) := by
  obtain ⟨callee, args, ts⟩ := c
  cases callee with
  | value f =>
    have h1 : VR ρ (ev tm f) (rv f) := hops f (by simp [Op.operands, Call.operands])
    have h2 := ops_rel (tm := tm) (rv := rv) args.toList (fun x hx => hops x (mem_args hx))
    simp only [xCall, mapOpsK_eq]
    refine Sim.congr ?_ (sim_callVal hA hS hw h1 (args' := args.map rv) (by rw [Array.toList_map]; exact h2))
    rfl
  | invoke r name =>
    have h1 : VR ρ (ev tm r) (rv r) := hops r (by simp [Op.operands, Call.operands])
    have h2 := ops_rel (tm := tm) (rv := rv) args.toList (fun x hx => hops x (mem_args hx))
    simp only [xCall, mapOpsK_eq]
    split
    · rename_i t v hv
      rw [hv] at h1
      generalize hrr : rv r = rr at h1
      cases h1 with
      | @iface _ _ v' hv' =>
        refine Sim.congr (s' := Go.callMethod (.iface t v') name (args.map rv)) ?_ (sim_callMethod hA hS hw hv' (by rw [Array.toList_map]; exact h2))
        simp only [resolve, hrr, pure_bind, invoke]
        have e1 : (#[Value.iface t v'] ++ args.map rv)[0]? = some (.iface t v') := by rw [Array.getElem?_append_left (by simp)]; rfl
        have e2 : (#[Value.iface t v'] ++ args.map rv).extract 1 (#[Value.iface t v'] ++ args.map rv).size = args.map rv := by
          apply Array.toList_inj.1
          simp [List.take_of_length_le]
        rw [e1, e2]
    · exact Sim.fail
  | builtin b =>
    have h2 := ops_rel (tm := tm) (rv := rv) args.toList (fun x hx => hops x (mem_args hx))
    simp only [xCall, mapOpsK_eq]
    refine Sim.congr ?_ (sim_builtin hA hw (b := b) (ts := ts) (ty := ty) (cs := args.map fun | .const _ => true | _ => false) (args' := args.map rv) (by rw [Array.toList_map]; exact h2))
    rfl
end
end Go.Am
end
section
set_option linter.unusedVariables false
namespace Go.Am
open Go Go.RowKit

section
variable {P : Program} {A : AP}

theorem opt_rel {ρ : Rho} {tm : T Value} {rv : Operand → Value} {o : Option Operand} (h : ∀ x, o = some x → VR ρ (ev tm x) (rv x)) : OVR ρ (optEv tm o) (o.map rv) := by
  cases o with
  | none => exact .none
  | some x => exact .some (h x rfl)

theorem execOk (hA : APOk P A) (hS : SumsOk P A) : ExecOk P A := by
  intro ρ h n B w0 w hw tm rv o hops
  obtain ⟨dst, op, ty, pos, after, gd⟩ := o
  simp only at hops
  have hop : ∀ {x : Operand}, x ∈ op.operands → VR ρ (ev tm x) (rv x) := fun hx => hops _ (by simpa using hx)
  unfold execX
  simp only
  split
  · rename_i x; exact sim_xMove hw (hop (by simp [Op.operands]))
  · rename_i x; exact sim_xMove hw (hop (by simp [Op.operands]))
  · rename_i c a b; exact sim_xPick hw (hop (by simp [Op.operands])) (hop (by simp [Op.operands])) (hop (by simp [Op.operands]))
  · exact sim_xAlloc hA hw
  · rename_i el x; exact sim_xBox hw (hop (by simp [Op.operands]))
  · rename_i t ps; exact sim_xBuild hA hw (fun p hp => hop (by simp [Op.operands]; exact ⟨p.1, by simpa using hp⟩))
  · rename_i t l ps; exact sim_xBuildSlice hA hw (fun p hp => hop (by simp [Op.operands]; exact ⟨p.1, by simpa using hp⟩))
  · rename_i t x; exact sim_xLoad hA hw (hop (by simp [Op.operands]))
  · rename_i t x y; exact sim_xStore hA hw (hop (by simp [Op.operands])) (hop (by simp [Op.operands]))
  · rename_i x
    have hx : VR ρ (ev tm x) (rv x) := hop (by simp [Op.operands])
    have hex : ∀ v, rv x = v → execOp rv ⟨dst, .nilCheck x, ty, pos, after, gd⟩ = execOp (fun _ => v) ⟨dst, .nilCheck x, ty, pos, after, gd⟩ := by
      rintro _ rfl; rfl
    unfold xNilCheck
    split
    · rename_i a ha
      rw [ha] at hx
      generalize hr : rv x = r at hx
      rw [hex _ hr]
      cases hx with
      | ptr he => exact Sim.val hw (s := pure (.pointer (some _))) rfl (.ptr he)
    · rename_i t v ha
      rw [ha] at hx
      generalize hr : rv x = r at hx
      rw [hex _ hr]
      cases hx with
      | iface t hv => exact Sim.val hw (s := pure (.iface t _)) rfl (.iface t hv)
    · rename_i f a b ha
      rw [ha] at hx
      generalize hr : rv x = r at hx
      rw [hex _ hr]
      cases hx with
      | func f h1 h2 h3 h4 => exact Sim.val hw (s := pure (.func (.func f) _ _)) rfl (.func f h1 h2 h3 h4)
    · rename_i f a b ha
      rw [ha] at hx
      generalize hr : rv x = r at hx
      rw [hex _ hr]
      cases hx with
      | yield h1 => exact Sim.val hw (s := pure (.func (.yield _) #[] #[])) rfl (.yield h1)
    · exact Sim.fail
  · rename_i bop t x y imp; exact sim_xBinOp hA hw (hop (by simp [Op.operands])) (hop (by simp [Op.operands]))
  · rename_i uop t x; exact Sim.ofV hw (sim_unOpV (hop (by simp [Op.operands])))
  · rename_i s d x; exact sim_xConvert hA hw (hop (by simp [Op.operands]))
  · rename_i t x; exact sim_xMakeInterface hA hw (hop (by simp [Op.operands]))
  · rename_i f a b; exact sim_xMakeFunc hw (fun x hx => hop (by simp [Op.operands]; left; simpa using hx)) (fun x hx => hop (by simp [Op.operands]; right; simpa using hx))
  · rename_i t r; exact sim_xMakeMap hA hw (fun x hx => hop (by simp [Op.operands, hx]))
  · rename_i t l c; exact sim_xMakeSlice hA hw (hop (by simp [Op.operands])) (hop (by simp [Op.operands]))
  · rename_i t x lo hi mx
    refine Sim.ofV hw (sim_sliceV hA (hop (by simp [Op.operands])) (opt_rel fun y hy => hop (by simp [Op.operands, hy])) (opt_rel fun y hy => hop (by simp [Op.operands, hy])) (opt_rel fun y hy => hop (by simp [Op.operands, hy])))
  · rename_i s x i; exact Sim.ofV hw (sim_fieldAddrV hA (hop (by simp [Op.operands])))
  · rename_i t x i; exact Sim.ofV hw (sim_fieldV hA (hop (by simp [Op.operands])))
  · rename_i t x i; exact Sim.ofV hw (sim_indexAddrV hA (hop (by simp [Op.operands])) (hop (by simp [Op.operands])))
  · rename_i t x i; exact Sim.ofV hw (sim_indexV hA (hop (by simp [Op.operands])) (hop (by simp [Op.operands])))
  · rename_i t m key ok; exact Sim.ofV hw (sim_lookupV hA hw (hop (by simp [Op.operands])) (hop (by simp [Op.operands])))
  · rename_i t m key v
    unfold xMapUpdate
    rw [evK_eq, evK_eq]
    exact sim_mapUpdate hA hw (hop (by simp [Op.operands])) (hop (by simp [Op.operands])) (hop (by simp [Op.operands]))
  · rename_i t x; exact sim_xRange hA hw (hop (by simp [Op.operands]))
  · rename_i it s; exact sim_nextX hw (hop (by simp [Op.operands]))
  · rename_i x xt t ok; exact Sim.ofV hw (sim_assertV hA (hop (by simp [Op.operands])))
  · rename_i t i; exact sim_xExtract hw (hop (by simp [Op.operands]))
  · rename_i c; exact sim_xCall hA hS hw hops
  · rename_i c
    unfold xDefer
    split
    · rename_i f args ts
      have h1 : VR ρ (ev tm f) (rv f) := hop (by simp [Op.operands, Call.operands])
      have h2 := ops_rel (tm := tm) (rv := rv) args.toList (fun x hx => hops x (mem_args (callee := .value f) (ts := ts) hx))
      split
      · rename_i g first cap hf
        rw [hf] at h1
        generalize hr : rv f = r at h1
        cases h1 with
        | @func _ _ _ as' bs' k1 k2 k3 k4 =>
          rw [mapOpsK_eq, lappK_eq]
          intro r2 h' n' hr2
          simp only [Res.ok.injEq] at hr2
          obtain ⟨rfl, rfl, rfl⟩ := hr2
          have ra : VRs ρ first.toList as'.toList := ⟨by simpa using k1, fun i x y hx hy => k2 i x y (by simpa using hx) (by simpa using hy)⟩
          have rb : VRs ρ cap.toList bs'.toList := ⟨by simpa using k3, fun i x y hx hy => k4 i x y (by simpa using hx) (by simpa using hy)⟩
          refine .inr ⟨.defer ⟨.fn (.func g) bs', as' ++ args.map rv⟩, w, ρ, ?_, Ext.refl _ _, Nat.le_refl _, hw, .defer ?_⟩
          · show ((Deferred.ofValue (rv f) (args.map rv) >>= fun d => pure (.defer d)) : Sem Next).run P w = _
            rw [hr]; rfl
          · refine ⟨rfl, rb, ?_⟩
            rw [Array.toList_append, Array.toList_map]
            exact ra.append h2
      · exact Sim.fail
    · exact Sim.fail
  · rename_i x; exact sim_xPanic hw (hop (by simp [Op.operands]))
  · exact Sim.fail

/-! what floats -/
theorem ofV_same {why : Nat} {h h' : T Ob} {n n' : Nat} {x : Option Value} {r : Nx} (he : ofV why h n x = .ok r h' n') : h' = h ∧ n' = n := by
  unfold ofV at he
  split at he
  · simp only [Res.ok.injEq] at he; exact ⟨he.2.1.symm, he.2.2.symm⟩
  · simp at he

theorem floatOk : FloatOk A := by
  intro op fk hfk hal tm h n v h' n' he
  have hok : ∀ {r : Nx}, Res.ok r h n = Res.ok (.value v) h' n' → h' = h ∧ n' = n := by
    intro r hh
    simp only [Res.ok.injEq] at hh
    exact ⟨hh.2.1.symm, hh.2.2.symm⟩
  have hno : ∀ {why : Nat}, Res.fail why = Res.ok (.value v) h' n' → h' = h ∧ n' = n := by intro why hh; simp at hh
  unfold floats at hfk
  split at hfk
  · rename_i x; simp only [execX, xMove, evK_eq] at he; exact hok he
  · rename_i c a b
    simp only [execX, xPick, evK_eq] at he
    split at he
    · rename_i t _; cases t <;> exact hok he
    · exact hno he
  · rename_i x
    simp only [execX, xNilCheck] at he
    split at he
    · exact hok he
    · exact hok he
    · exact hok he
    · exact hok he
    · exact hno he
  · rename_i bop t x y _
    simp only [execX, xBinOp] at he
    split at he
    · split at he
      · split at he
        · rename_i ms _
          cases hc : ((isConstO x || isConstO y) || ms.toList.isEmpty) with
          | false => rw [hc] at he; exact hno he
          | true =>
            rw [hc, cond_true] at he
            split at he
            · exact hok he
            · exact hok he
            · exact hno he
        · exact hno he
      · exact ofV_same he
    · exact ofV_same he
  · simp only [execX, xUnOp] at he; exact ofV_same he
  · simp only [execX, xFieldAddr] at he; exact ofV_same he
  · simp only [execX, xField] at he; exact ofV_same he
  · simp only [execX, xIndexAddr] at he; exact ofV_same he
  · simp only [execX, xIndex] at he; exact ofV_same he
  · simp only [execX, xExtract] at he
    split at he
    · split at he
      · exact hok he
      · exact hno he
    · exact hno he
  · simp only [execX, xSlice] at he; exact ofV_same he
  · simp only [execX, xBuild, mapPartsK_eq] at he; exact ofV_same he
  · simp only [execX, xMakeInterface, evK_eq] at he
    split at he
    · exact hno he
    · exact hok he
    · exact hno he
  · simp only [execX, xMakeFunc, mapOpsK_eq] at he
    split at he
    · exact hok he
    · exact hno he
  · simp only [execX, xAssert] at he; exact ofV_same he
  · simp only [execX, xLoad] at he
    split at he
    · exact ofV_same he
    · exact hno he
  · simp only [execX, xLookup] at he; exact ofV_same he
  · rename_i s d x
    split at hfk
    · rename_i kd hd
      simp only [execX, xConvert, hd] at he
      split at he
      · exact hno he
      · split at he
        · rw [vint_eq] at he; exact hok he
        · exact hno he
    · rename_i hd
      simp only [execX, xConvert, hd] at he
      split at he
      · exact hno he
      · split at he
        · exact hok he
        · split at he
          · unfold bytesToStr at he
            split at he
            · split at he
              · exact hok he
              · rw [firstK_map] at he
                split at he
                · rw [valBytes_eq] at he
                  split at he
                  · exact hok he
                  · exact hno he
                · exact hno he
              · exact hno he
            · exact hno he
          · exact hno he
    · simp at hfk
  · simp only [Option.some.injEq] at hfk; subst hfk; simp [isAlloc] at hal
  · simp only [Option.some.injEq] at hfk; subst hfk; simp [isAlloc] at hal
  · simp only [Option.some.injEq] at hfk; subst hfk; simp [isAlloc] at hal
  · split at hfk
    · split at hfk
      · simp only [execX, xCall, mapOpsK_eq, builtinX, bLen] at he
        split at he
        · split at he
          · split at he
            · rw [natK_eq] at he; exact hok he
            · exact hno he
          · exact hno he
        · exact hno he
      · simp only [execX, xCall, mapOpsK_eq, builtinX, bFold] at he
        split at he
        · exact ofV_same he
        · exact hno he
      · simp only [execX, xCall, mapOpsK_eq, builtinX, bFold] at he
        split at he
        · exact ofV_same he
        · exact hno he
      · simp only [execX, xCall, mapOpsK_eq, builtinX, bSliceData] at he
        split at he
        · exact hok he
        · rename_i a l c _
          cases hc : (or (Nat.beq c 0) (and (Nat.ble LOOSE c) (Nat.beq (Nat.mod c LOOSE) 0))) with
          | true => rw [hc] at he; exact hno he
          | false => rw [hc] at he; exact hok he
        · exact hno he
      · simp at hfk
    · simp at hfk
  · simp at hfk

theorem newCells {c : List Value} {el : TypeId} {why : Nat} {h h' : T Ob} {n n' : Nat} {v : Value} {mk : Nat → Value} (he : (newK (.cells c el 0 0) h n (Res.fail why) fun b h' n' => Res.ok (.value (mk b)) h' n') = Res.ok (.value v) h' n') :
    h.put n (.cells c el 0 0) = some h' ∧ n' = n + 1 ∧ v = mk n := by
  rw [newK_eq] at he
  split at he
  · rename_i h2 hp
    simp only [Res.ok.injEq, Nx.value.injEq] at he
    obtain ⟨rfl, rfl, rfl⟩ := he
    exact ⟨hp, rfl, rfl⟩
  · simp at he

theorem allocA : AllocA A := by
  intro op hfk tm h n v h' n' he
  cases op with
  | alloc el =>
    simp only [execX, xAlloc] at he
    split at he
    · rw [cellsK_eq] at he
      obtain ⟨h1, h2, h3⟩ := newCells (mk := fun b => .pointer (some ⟨b, 0, none⟩)) he
      exact ⟨_, _, h1, h2, .inl h3⟩
    · simp at he
  | box el x =>
    simp only [execX, xBox, evK_eq, cellsK_eq] at he
    obtain ⟨h1, h2, h3⟩ := newCells (mk := fun b => .pointer (some ⟨b, 0, none⟩)) he
    exact ⟨_, _, h1, h2, .inl h3⟩
  | buildSlice t len ps =>
    simp only [execX, xBuildSlice, mapPartsK_eq] at he
    split at he
    · split at he
      · split at he
        · rename_i el hu x2 s hs x3 z hz
          generalize hck : ((Nat.blt len LOOSE && Nat.ble (Nat.mul len s) 16777216) && (Nat.beq (llen (cellsOf z)) s && fitArray s (ps.toList.map fun p => (p.1, ev tm p.2)))) = ck at he
          cases ck with
          | false => simp at he
          | true =>
            rw [cond_true, repK_eq, fillArray_eq] at he
            split at he
            · obtain ⟨h1, h2, h3⟩ := newCells (mk := fun b => .slice (some ⟨b, 0, none⟩) len len) he
              exact ⟨_, _, h1, h2, .inr ⟨_, _, h3⟩⟩
            · simp at he
        · simp at he
      · simp at he
    · simp at he
  | convert s d x =>
    simp only [floats] at hfk
    split at hfk <;> simp at hfk
  | call c =>
    simp only [floats] at hfk
    split at hfk
    · split at hfk <;> simp at hfk
    · simp at hfk
  | _ => simp [floats] at hfk

theorem allocOk (hA : APOk P A) : AllocOk P A := by
  intro ρ h n B w0 w hw tm rv o hops hfk v h' n' he
  obtain ⟨dst, op, ty, pos, after, gd⟩ := o
  simp only at hops hfk he
  have hop : ∀ {x : Operand}, x ∈ op.operands → VR ρ (ev tm x) (rv x) := fun hx => hops _ (by simpa using hx)
  cases op with
  | alloc el =>
    simp only [execX, xAlloc] at he
    split at he
    · rename_i z hz
      rw [cellsK_eq] at he
      obtain ⟨h1, h2, h3⟩ := newCells (mk := fun b => .pointer (some ⟨b, 0, none⟩)) he
      refine ⟨_, _, z.cells, h1, h2, VRs.cellsOf (VR.plainV (zero_plain hA hz)), .inl ⟨h3, ?_⟩⟩
      show (asNext (Instr.alloc el true (.tuple #[]))).run P w = _
      simp [asNext, Instr.alloc, run_zero hA hz, newVar, newRow]
    · simp at he
  | box el x =>
    simp only [execX, xBox, evK_eq, cellsK_eq] at he
    obtain ⟨h1, h2, h3⟩ := newCells (mk := fun b => .pointer (some ⟨b, 0, none⟩)) he
    refine ⟨_, _, (rv x).cells, h1, h2, VRs.cellsOf (hop (by simp [Op.operands])), .inl ⟨h3, ?_⟩⟩
    show (asNext (Instr.box el (rv x))).run P w = _
    simp [asNext, Instr.box, newVar, newRow]
  | buildSlice t len ps =>
    simp only [execX, xBuildSlice, mapPartsK_eq] at he
    have hp := parts_rel (ρ := ρ) (tm := tm) (rv := rv) ps.toList (fun p hp => hop (by simp [Op.operands]; exact ⟨p.1, by simpa using hp⟩))
    have e : (ps.map fun p => (p.1, rv p.2)) = (ps.toList.map fun p => (p.1, rv p.2)).toArray := Array.toList_inj.1 (by rw [Array.toList_map])
    generalize (ps.toList.map fun p => (p.1, ev tm p.2)) = qs at hp he
    generalize (ps.toList.map fun p => (p.1, rv p.2)) = qs' at hp e
    split at he
    · rename_i el hu
      split at he
      · rename_i s hs
        split at he
        · rename_i z hz
          generalize hck : ((Nat.blt len LOOSE && Nat.ble (Nat.mul len s) 16777216) && (Nat.beq (llen (cellsOf z)) s && fitArray s qs)) = ck at he
          cases ck with
          | false => simp at he
          | true =>
            rw [cond_true, repK_eq, fillArray_eq, List.append_nil] at he
            rw [Bool.and_eq_true, Bool.and_eq_true, Bool.and_eq_true] at hck
            obtain ⟨⟨hk0, hk1⟩, hk2, hk3⟩ := hck
            rw [natBlt] at hk0
            have hk0 := of_decide_eq_true hk0
            have hk1 : len * s ≤ 16777216 := Nat.le_of_ble_eq_true hk1
            have hk2 := Nat.eq_of_beq_eq_true hk2
            rw [llen_eq] at hk2
            split at he
            · rename_i c hc
              obtain ⟨h1, h2, h3⟩ := newCells (mk := fun b => .slice (some ⟨b, 0, none⟩) len len) he
              obtain ⟨cr, g1, g2⟩ := fill_rel (place := fun i => some (i * s, s)) hp (by
                intro i v hm o ho
                simp only [Option.some.injEq] at ho
                rw [← ho, fitArray_mem hk3 i v hm]) (zeros_rel (ρ := ρ) (len := len) (zero_plain hA hz) hk2) hc
              refine ⟨_, _, cr, h1, h2, g2, .inr ⟨len, len, hk0, h3, ?_⟩⟩
              show (asNext (Instr.buildSlice t len (ps.map fun p => (p.1, rv p.2)))).run P w = _
              rw [e]
              have hlim : ¬ (2 ^ 24 < len * s) := by omega
              by_cases h0 : len * s = 0
              · have hr : Array.range 0 = #[] := rfl
                rw [h0, hr, Array.map_empty] at g1
                simp [asNext, Instr.buildSlice, run_under hA hu, run_sizeOf hA hs, h0, hr, g1, newRow]
              · simp [asNext, Instr.buildSlice, run_under hA hu, run_sizeOf hA hs, h0, run_zero hA hz, hlim, g1, newRow]
            · simp at he
        · simp at he
      · simp at he
    · simp at he
  | convert s d x =>
    simp only [floats] at hfk
    split at hfk <;> simp at hfk
  | call c =>
    simp only [floats] at hfk
    split at hfk
    · split at hfk <;> simp at hfk
    · simp at hfk
  | _ => simp [floats] at hfk
end
end Go.Am
end
section
set_option linter.unusedVariables false
namespace Go.Am
open Go Go.RowKit

def noneT {α : Type} (t : T α) : Prop := ∀ n, t.get n = none
theorem noneT_leaf {α : Type} : noneT (T.leaf : T α) := fun n => rfl
theorem noneT_node {α : Type} {l r : T α} (hl : noneT l) (hr : noneT r) : noneT (T.node l none r) := by
  intro n
  cases n with
  | zero => rfl
  | succ m => rw [T.get_node_succ]; split; exact hl _; exact hr _
theorem noneT_e9 {α : Type} : noneT (T.e9 : T α) := by
  unfold T.e9 T.e8 T.e7 T.e6 T.e5 T.e4 T.e3 T.e2 T.e1
  have h1 : noneT (T.node T.leaf none T.leaf : T α) := noneT_node noneT_leaf noneT_leaf
  have h2 := noneT_node h1 h1
  have h3 := noneT_node h2 h2
  have h4 := noneT_node h3 h3
  have h5 := noneT_node h4 h4
  have h6 := noneT_node h5 h5
  have h7 := noneT_node h6 h6
  have h8 := noneT_node h7 h7
  exact noneT_node h8 h8

theorem putArgs_spec : ∀ (vs : List Value) (tm : T Value) (i : Nat), (∃ why, ∀ k, putArgs tm i vs k = .fail why) ∨ ∃ tm', (∀ k, putArgs tm i vs k = k tm' (i + vs.length)) ∧ ∀ t, tm'.get t = if i ≤ t ∧ t < i + vs.length then vs[t - i]? else tm.get t
  | [], tm, i => .inr ⟨tm, fun k => rfl, fun t => by rw [if_neg]; simp⟩
  | v :: vs, tm, i => by
    cases hp : tm.put i v with
    | none => exact .inl ⟨206, fun k => by simp only [putArgs, T.setK_eq, hp]⟩
    | some tm1 =>
      rcases putArgs_spec vs tm1 (i + 1) with ⟨why, h1⟩ | ⟨tm2, h1, h2⟩
      · exact .inl ⟨why, fun k => by simp only [putArgs, T.setK_eq, hp]; exact h1 k⟩
      · refine .inr ⟨tm2, fun k => ?_, fun t => ?_⟩
        · simp only [putArgs, T.setK_eq, hp]
          rw [show Nat.succ i = i + 1 from rfl, h1]
          simp only [List.length_cons]
          rw [show i + 1 + vs.length = i + (vs.length + 1) by omega]
        · rw [h2 t, T.get_put tm i v tm1 hp t]
          simp only [List.length_cons]
          by_cases hti : t = i
          · subst hti
            rw [if_neg (by omega), if_pos rfl, if_pos (by omega)]
            simp
          · by_cases hr : i + 1 ≤ t ∧ t < i + 1 + vs.length
            · rw [if_pos hr, if_pos (by omega)]
              rw [show t - i = (t - (i + 1)) + 1 by omega]
              simp
            · rw [if_neg hr, if_neg hti, if_neg (by omega)]

section
variable {P : Program} {A : AP} {ρ : Rho} {h : T Ob} {n B : Nat} {w0 w : World} {f0 : FuncId} {cs : List Frame}

/-- a function is entered in both -/
theorem enter_rel (hA : APOk P A) {f : FuncId} {as : List Value} {bs : Array Value} (hv : VRs ρ as bs.toList) {kd : CallKind} (kk : Fr → R) :
    (∃ why, enterA A f as kd kk = .fail why) ∨ ∃ fr', enterA A f as kd kk = kk fr' ∧ FrR A ρ fr' (Frame.enter P f bs kd) [] := by
  unfold enterA
  split
  · rename_i nt _ c _ _ _ _ _ _ _ hf
    rcases putArgs_spec as T.e9 0 with ⟨why, h1⟩ | ⟨tm', h1, h2⟩
    · exact .inl ⟨why, h1 _⟩
    · rw [h1]
      simp only [Nat.zero_add, natBle, Bool.cond_decide]
      split
      · rename_i hle
        refine .inr ⟨_, rfl, ?_⟩
        have hP := hA.funcs _ _ hf
        have hlen : as.length = bs.size := by have := hv.1; simpa using this
        refine ⟨rfl, rfl, ?_, .nil, .run, .no⟩
        simp only [Frame.enter, hP, Option.map_some, Option.getD_some, Option.bind_some]
        refine .plain (.cons (.code (hA.code _ _ _ hf rfl).1) .nil) ⟨by simp; omega, fun t _ => ?_⟩
        have hg := h2 t
        simp only [Nat.zero_le, true_and, Nat.zero_add, Nat.sub_zero] at hg
        by_cases ht : t < as.length
        · rw [if_pos ht] at hg
          obtain ⟨y, hy, hxy⟩ := hv.get (show as[t]? = some as[t] by simp [ht])
          have e1 : ev tm' (.tmp t) = as[t] := by simp [ev, hg, ht]
          have hy' : bs[t]? = some y := by simpa using hy
          have e2 : (bs ++ Array.replicate (nt - bs.size) Go.undef).getD t Go.undef = y := by
            rw [Array.getD_eq_getD_getElem?, Array.getElem?_append_left (by rw [← hlen]; exact ht), hy']; rfl
          rw [e1, e2]; exact hxy
        · rw [if_neg ht, noneT_e9 t] at hg
          have e1 : ev tm' (.tmp t) = undefV := by simp [ev, hg]
          have ht' : bs.size ≤ t := by rw [← hlen]; exact Nat.le_of_not_lt ht
          have e2 : ∀ m, (bs ++ Array.replicate m Go.undef).getD t Go.undef = Go.undef := by
            intro m
            rw [Array.getD_eq_getD_getElem?, Array.getElem?_append_right ht', Array.getElem?_replicate]
            split <;> rfl
          rw [e1, e2]; exact VRs.toTuple VRs.nil
      · exact .inl ⟨_, rfl⟩
  · exact .inl ⟨_, rfl⟩
end
end Go.Am
end
section
set_option linter.unusedVariables false
namespace Go.Am
open Go Go.RowKit

section
variable {P : Program} {A : AP} {ρ ρ' : Rho} {h : T Ob} {n B : Nat} {w0 w : World} {f0 : FuncId} {cs : List Frame}

theorem raise_rel {fr : Fr} {rf : Frame} {g : List Nat} (hf : FrR A ρ fr rf g) {ch ch' : List PanicEntry} (hp : PRs' ρ ch ch') (fcs : List Fr) (h : T Ob) (n : Nat) :
    ∃ fr', raiseA fr fcs h n ch = .next ⟨fr', fcs, h, n⟩ ∧ FrR A ρ fr' (rf.raise ch') g ∧ (rf.raise ch').fn = rf.fn := by
  obtain ⟨fn, tm, nt, todo, ds, md, kd, ro⟩ := fr
  have hm := hf.mode
  simp only at hm
  generalize hrm : rf.mode = m at hm
  cases hm with
  | run =>
    refine ⟨_, rfl, ⟨?_, ?_, ?_, ?_, ?_, ?_⟩, ?_⟩
    all_goals simp only [Frame.raise, hrm]
    · exact hf.fn
    · exact hf.kind
    · exact hf.body
    · exact hf.ds
    · exact .panicking hp
    · exact hf.ro
  | returning =>
    refine ⟨_, rfl, ⟨?_, ?_, ?_, ?_, ?_, ?_⟩, ?_⟩
    all_goals simp only [Frame.raise, hrm]
    · exact hf.fn
    · exact hf.kind
    · exact hf.body
    · exact hf.ds
    · exact .panicking hp
    · exact hf.ro
  | panicking ho =>
    refine ⟨_, rfl, ⟨?_, ?_, ?_, ?_, ?_, ?_⟩, ?_⟩
    all_goals simp only [Frame.raise, hrm]
    · exact hf.fn
    · exact hf.kind
    · exact hf.body
    · exact hf.ds
    · exact .panicking (hp.append ho)
    · exact hf.ro

theorem apply_enter {rf : Frame} {sem : Sem Next} {w' : World} {f : FuncId} {bs : Array Value} (hcall : ∀ d b r sv k, rf.todo ≠ .call d b r sv :: k) (hr : sem.run P w = .ok (.enter f bs) w') (cs : List Frame) :
    (stepG.apply P true rf cs none sem w).bare = .go { frame := Frame.enter P f bs .normal, callers := rf :: cs, status := .running, dying := none } w' := by
  cases ht : rf.todo with
  | nil => simp [stepG.apply, hr, ht]
  | cons it k =>
    cases it <;> first
      | exact absurd ht (hcall _ _ _ _ _)
      | simp [stepG.apply, hr, ht]

theorem WR.later {w' : World} (hw : WR P ρ h n B w0 w) (hb : Below w.heap.size w w') : WR P ρ h n B w0 w' where
  live := fun b ob hbo e he => (hw.live b ob hbo e he).heap (hb.block _ (hw.rng b e ob he hbo).2)
  fresh := hw.fresh
  rng := fun b e ob he hbo => by have h1 := hw.rng b e ob he hbo; have := hb.size; exact ⟨h1.1, by omega⟩
  inj := hw.inj
  below := ⟨hb.os.trans hw.below.os, hb.tape.trans hw.below.tape, hb.output.trans hw.below.output, by have h1 := hw.below.size; have h2 := hb.size; omega, fun k hk => by rw [hb.block k (by have := hw.base; omega), hw.below.block k hk]⟩
  base := by have h1 := hw.base; have h2 := hb.size; omega

theorem recoverA_some {fr : Fr} {fcs cs' : List Fr} {v : Value} (hr : recoverA fr fcs = some (v, cs')) : fr.kind = .deferred ∧ fr.roundOf = none ∧ ∃ c rest older, fcs = c :: rest ∧ c.mode = .panicking (⟨v, false, false⟩ :: older) ∧ cs' = { c with mode := .panicking (⟨v, true, false⟩ :: older) } :: rest := by
  unfold recoverA at hr
  split at hr
  · split at hr
    · simp only [Option.some.injEq, Prod.mk.injEq] at hr
      obtain ⟨rfl, rfl⟩ := hr
      exact ⟨rfl, rfl, _, _, _, rfl, rfl, rfl⟩
    · simp at hr
  · simp at hr

theorem recoverNo_true {fr : Fr} {fcs : List Fr} (hr : recoverNo fr fcs = true) : fr.kind = .deferred ∧ fr.roundOf = none ∧ ∃ c rest, fcs = c :: rest ∧ c.mode = .returning := by
  unfold recoverNo at hr
  split at hr
  · split at hr
    · exact ⟨rfl, rfl, _, _, rfl, rfl⟩
    · simp at hr
  · simp at hr

/-- what an operation or a call comes to, in both; 'rf' stands at the operation -/
theorem apply_sound (hA : APOk P A) {fr : Fr} {fcs : List Fr} {rf : Frame} {rcs : List Frame} {g G : List Nat} (s : St P A B w0 f0 ρ fr fcs h n rf rcs w g G) (hhd : Hd fr.todo rf.todo) (hmd : fr.mode = .run)
    {x : Res} {sem : Sem Next} (hsim : Sim P ρ h n B w0 w x sem) (hcall : ∀ d b r sv k, rf.todo ≠ .call d b r sv :: k)
    {rf0 : Frame} {w1 : World} (hreal : ∀ cs, (stepG P true { frame := rf0, callers := cs, status := .running, dying := none } w1).bare = (stepG.apply P true rf cs none sem w).bare) :
    Goal P A B w0 f0 cs rf0 rcs w1 (applyA x A fr fcs) := by
  cases x with
  | fail why => exact Goal.fail
  | ok r h' n' =>
    simp only [applyA]
    have hgo : ∀ {rf' : Frame} {rcs' : List Frame} {w' : World}, (stepG.apply P true rf (rcs ++ cs) none sem w).bare = .go { frame := rf', callers := rcs' ++ cs, status := .running, dying := none } w' → step P (lone rf0 (rcs ++ cs) w1) = .next (lone rf' (rcs' ++ cs) w') := fun hh => step_lone_go (by rw [hreal, hh])
    rcases hsim r h' n' rfl with ⟨v, v', rfl, hv, hr, rfl, rfl⟩ | ⟨nx, w', ρ', hr, hext, hn, hw', hnx⟩
    · -- a panic
      obtain ⟨fr', h1, h2, h3⟩ := raise_rel s.fr (PRs'.cons (r := false) (g := false) hv .nil) fcs h' n'
      simp only [applyX, aPanic, h1]
      refine ⟨_, rcs, w, Steps.one (hgo (by simp [stepG.apply, hr])), ⟨ρ, g, G, s.hw, h2, s.cs, s.g, s.gl⟩, by rw [bot_upd rcs h3, s.bot]⟩
    · have hfr := s.fr.ext hext.1
      have hcs := s.cs.ext hext.1
      have hg := s.g.ext hext hn
      have hgl := s.gl.ext hext.1
      cases hnx with
      | @value v v' hv =>
        simp only [applyX, aValue]
        rcases fin hext.1 s.fr hhd hv fcs h' n' with ⟨why, h1⟩ | ⟨fr', h1, h2, h3⟩
        · rw [h1]; exact Goal.fail
        · rw [h1]
          refine ⟨_, rcs, w', Steps.one (hgo (by simp [stepG.apply, hr])), ⟨ρ', g, G, hw', h2, hcs, hg, hgl⟩, by rw [bot_upd rcs h3, s.bot]⟩
      | skip =>
        simp only [applyX, aValue]
        rcases fin hext.1 s.fr hhd (v := undefV) (v' := Go.undef) (VRs.toTuple VRs.nil) fcs h' n' with ⟨why, h1⟩ | ⟨fr', h1, h2, h3⟩
        · rw [h1]; exact Goal.fail
        · rw [h1]
          refine ⟨_, rcs, w', Steps.one (hgo (by simp [stepG.apply, hr])), ⟨ρ', g, G, hw', h2, hcs, hg, hgl⟩, by rw [bot_upd rcs h3, s.bot]⟩
      | @enter f as bs hv =>
        simp only [applyX, aEnter]
        rcases enter_rel hA hv (kd := .normal) (fun g => .next ⟨g, fr :: fcs, h', n'⟩) with ⟨why, h1⟩ | ⟨fr', h1, h2⟩
        · rw [h1]; exact Goal.fail
        · rw [h1]
          refine ⟨Frame.enter P f bs .normal, rf :: rcs, w', Steps.one (hgo ?_), ⟨ρ', [], g ++ G, hw', h2, .cons hfr hhd hcs, by simpa using hg, hgl⟩, s.bot⟩
          exact apply_enter hcall hr _
      | @known f as bs v hk =>
        simp only [applyX, aValue]
        obtain ⟨e, w2, fr2, ⟨v', rfl, hvv, hbel⟩, hsteps, _, hleave⟩ := hk w' (rf :: (rcs ++ cs))
        have hw2 := hw'.later hbel
        rcases fin hext.1 s.fr hhd (hvv ρ') fcs h' n' with ⟨why, h1⟩ | ⟨fr', h1, h2, h3⟩
        · rw [h1]; exact Goal.fail
        · rw [h1]
          have e1 : step P (lone rf0 (rcs ++ cs) w1) = .next (lone (Frame.enter P f bs .normal) (rf :: (rcs ++ cs)) w') := step_lone_go (by rw [hreal]; exact apply_enter hcall hr _)
          exact ⟨_, rcs, w2, Steps.head e1 (Steps.trans hsteps (Steps.one (step_leave_returned hleave))), ⟨ρ', g, G, hw2, h2, hcs, hg, hgl⟩, by rw [bot_upd rcs h3, s.bot]⟩
      | @round l e f tm nt tr asg body hl ht hc1 hc2 =>
        simp only [applyX, aRound]
        refine ⟨Frame.round e.r f tr asg body .normal, rf :: rcs, w', Steps.one (hgo (by simp [stepG.apply, hr])), ⟨ρ', [], g ++ G, hw', ⟨rfl, rfl, ?_, .nil, .run, .yes hl⟩, .cons hfr hhd hcs, by simpa using hg, hgl⟩, s.bot⟩
        exact .plain (.cons (.code hc1) (.cons .beginRound (.cons (.code hc2) .nil))) ⟨ht.1, fun t _ => ht.2 t⟩
      | @defer d d' hd =>
        simp only [applyX, aDefer]
        split
        · rename_i fn tm nt todo ds md kd
          have hf2 : FrR A ρ' ⟨fn, tm, nt, todo, d :: ds, md, kd, none⟩ { rf with defers := d' :: rf.defers } g := ⟨hfr.fn, hfr.kind, hfr.body, .cons hd hfr.ds, hfr.mode, hfr.ro⟩
          rcases fin (fun _ _ h => h) hf2 hhd (v := undefV) (v' := Go.undef) (VRs.toTuple VRs.nil) fcs h' n' with ⟨why, h1⟩ | ⟨fr', h1, h2, h3⟩
          · rw [h1]; exact Goal.fail
          · rw [h1]
            refine ⟨_, rcs, w', Steps.one (hgo (by simp [stepG.apply, hr])), ⟨ρ', g, G, hw', h2, hcs, hg, hgl⟩, (bot_upd (rf := rf) rcs h3).trans s.bot⟩
        · exact Goal.fail
      | recover =>
        have hro := s.fr.ro
        have hkd := s.fr.kind
        simp only [applyX, aRecover]
        split
        · rename_i v cs' hrec
          obtain ⟨k1, k2, c, rest, older, rfl, k3, rfl⟩ := recoverA_some hrec
          rw [k2] at hro
          cases hcs with
          | @cons _ rc _ rcs' g1 G1 hfc hdc hcs' =>
            have hmc := hfc.mode
            rw [k3] at hmc
            generalize hrm : rc.mode = m at hmc
            cases hmc with
            | panicking hp =>
              cases hp with
              | @cons _ v' _ _ _ ys hv hp' =>
                generalize hro' : rf.roundOf = q at hro
                cases hro
                have htry : tryRecover rf (rc :: rcs' ++ cs) = some (v', { rc with mode := .panicking (⟨v', true, false⟩ :: ys) } :: (rcs' ++ cs)) := by
                  simp [tryRecover, hkd, k1, hrm]
                have hc2 : FrRs A ρ' ({ c with mode := .panicking (⟨v, true, false⟩ :: older) } :: rest) ({ rc with mode := .panicking (⟨v', true, false⟩ :: ys) } :: rcs') (g1 ++ G1) :=
                  .cons ⟨hfc.fn, hfc.kind, hfc.body, hfc.ds, .panicking (.cons hv hp'), hfc.ro⟩ hdc hcs'
                rcases fin hext.1 s.fr hhd hv ({ c with mode := .panicking (⟨v, true, false⟩ :: older) } :: rest) h' n' with ⟨why, h1⟩ | ⟨fr', h1, h2, h3⟩
                · rw [h1]; exact Goal.fail
                · rw [h1]
                  refine ⟨rf.finish v', { rc with mode := .panicking (⟨v', true, false⟩ :: ys) } :: rcs', w', Steps.one (step_lone_go ?_), ⟨ρ', g, g1 ++ G1, hw', h2, hc2, hg, hgl⟩, ?_⟩
                  · rw [hreal]
                    simp only [stepG.apply, Sem.runT_eq, hr, if_true, GStep.bare_after, hro', htry]
                    rfl
                  · have := s.bot
                    cases rcs' <;> exact this
        · rename_i hrec
          cases hno : recoverNo fr fcs with
          | false => exact Goal.fail
          | true =>
            simp only [cond_true]
            obtain ⟨k1, k2, c, rest, rfl, k3⟩ := recoverNo_true hno
            rw [k2] at hro
            have hcs0 := hcs
            cases hcs with
            | @cons _ rc _ rcs' g1 G1 hfc hdc hcs' =>
              have hmc := hfc.mode
              rw [k3] at hmc
              generalize hrm : rc.mode = m at hmc
              cases hmc
              generalize hro' : rf.roundOf = q at hro
              cases hro
              have htry : tryRecover rf (rc :: rcs' ++ cs) = none := by
                simp [tryRecover, hkd, k1, hrm]
              rcases fin hext.1 s.fr hhd (v := .nilIface) (v' := .nilIface) .nilIface (c :: rest) h' n' with ⟨why, h1⟩ | ⟨fr', h1, h2, h3⟩
              · rw [h1]; exact Goal.fail
              · rw [h1]
                refine ⟨rf.finish .nilIface, rc :: rcs', w', Steps.one (step_lone_go ?_), ⟨ρ', g, g1 ++ G1, hw', h2, hcs0, hg, hgl⟩, ?_⟩
                · rw [hreal]
                  simp only [stepG.apply, Sem.runT_eq, hr, if_true, GStep.bare_after, hro', htry]
                  rfl
                · have := s.bot
                  cases rcs' <;> exact this
end
end Go.Am
end
section
set_option linter.unusedVariables false
namespace Go.Am
open Go Go.RowKit

section
variable {P : Program} {A : AP} {ρ : Rho} {tm : T Value} {nt : Nat} {h : T Ob} {n B : Nat} {w0 w : World} {f0 : FuncId} {cs : List Frame}
variable {fn : FuncId} {k : List It} {ds : List Deferred} {kd : CallKind} {ro : Option Nat} {fcs : List Fr} {rf : Frame} {rcs : List Frame} {g G : List Nat}

theorem not_call {rf : Frame} {ops : Array Oper} {l : List Nat} {k' : List Item} (ht : rf.todo = .inRegion ops l :: k') : ∀ d b r sv k, rf.todo ≠ .call d b r sv :: k := by
  intro d b r sv k hh; rw [ht] at hh; simp at hh

/-- AM fails at a deferred call in a round -/
theorem ro_or (hA : ExecOk P A) (o : Oper) {ro : Option Nat} {rro : Option Nat} (hr : RoR ρ ro rro) : rro = none ∨ ∃ l, ro = some l := by
  cases hr with
  | no => exact .inl rfl
  | @yes l e h => exact .inr ⟨l, rfl⟩

/-- a deferred call in a round: AM fails -/
theorem defer_fail {c : Call} {l : Nat} {todo : List It} : ∃ why, applyA (execX (.defer c) A tm h n) A ⟨fn, tm, nt, todo, ds, .run, kd, some l⟩ fcs = .fail why := by
  simp only [execX, xDefer]
  split
  · split
    · rw [mapOpsK_eq, lappK_eq]; exact ⟨_, rfl⟩
    · exact ⟨_, rfl⟩
  · exact ⟨_, rfl⟩

/-- an operation of a region that keeps its order -/
theorem g_oper (hP : APOk P A) (hE : ExecOk P A) {ops : Array Oper} {dst : Option Tmp} {op : Op} {ty : TypeId} {pos : String} {after : Array Edge} {gd : Option (Nat × Bool)} {rest : List Oper}
    (s : St P A B w0 f0 ρ ⟨fn, tm, nt, .inRegion ops (⟨dst, op, ty, pos, after, gd⟩ :: rest) :: k, ds, .run, kd, ro⟩ fcs h n rf rcs w g G) :
    Goal P A B w0 f0 cs rf rcs w (gOper ops ⟨dst, op, ty, pos, after, gd⟩ rest A fn tm nt k ds kd ro fcs h n) := by
  obtain ⟨y, ys, hy, h1, h2, hg, ht, hm⟩ := s.plain (by simp)
  generalize hl : (⟨dst, op, ty, pos, after, gd⟩ :: rest : List Oper) = l at h1
  cases h1 with
  | @inRegion _ kk hok =>
    obtain ⟨ho, hrest⟩ := drop_cons hl
    have hlt : kk < ops.size := by
      rcases Nat.lt_or_ge kk ops.toList.length with h5 | h5
      · simpa using h5
      · rw [List.getElem?_eq_none h5] at ho; simp at ho
    rw [range_drop hlt] at hy
    have hwant : Region.wanted ⟨dst, op, ty, pos, after, gd⟩ (yielded ops rf.tmps) = wantedA gd ops.toList tm := wantedA_eq fun j b _ => yielded_rel ht fun _ _ _ _ => by simp
    have hhd : Hd (.inRegion ops (⟨dst, op, ty, pos, after, gd⟩ :: rest) :: k) rf.todo := .plain (by simp)
    have hoperOk := hok _ (List.mem_of_getElem? ho)
    have hops : ∀ x ∈ op.operands.toList, VR ρ (ev tm x) (rf.eval x) := fun x hx => rf_eval ht s.gl (by unfold operOk at hoperOk; rw [List.all_eq_true] at hoperOk; exact hoperOk x hx) (fun t _ => by simp)
    unfold gOper
    simp only
    cases hwa : wantedA gd ops.toList tm with
    | false =>
      rw [hwa] at hwant
      simp only [cond_false]
      rcases fin (fun _ _ h => h) s.fr hhd (v := undefV) (v' := Go.undef) (VRs.toTuple VRs.nil) fcs h n with ⟨why, h3⟩ | ⟨fr', h3, h4, h5⟩
      · rw [h3]; exact Goal.fail
      · rw [h3]; exact s.top (step_notWanted hm hy ho hwant) h4 s.g h5
    | true =>
      rw [hwa] at hwant
      simp only [cond_true]
      by_cases hdd : (∃ c, op = .defer c) ∧ ∃ l, ro = some l
      · obtain ⟨⟨c, rfl⟩, l, rfl⟩ := hdd
        obtain ⟨why, hw⟩ := defer_fail (A := A) (tm := tm) (h := h) (n := n) (fn := fn) (nt := nt) (ds := ds) (kd := kd) (fcs := fcs) (c := c) (l := l) (todo := .inRegion ops (⟨dst, .defer c, ty, pos, after, gd⟩ :: rest) :: k)
        rw [hw]; exact Goal.fail
      have hnd : rf.roundOf = none ∨ ∀ c, (Oper.mk dst op ty pos after gd).op ≠ .defer c := by
        by_cases hd : ∃ c, op = .defer c
        · obtain ⟨c, hc⟩ := hd
          have hr := s.fr.ro
          simp only at hr
          cases ro with
          | some l => exact absurd ⟨⟨c, hc⟩, l, rfl⟩ hdd
          | none =>
            generalize hq : rf.roundOf = q at hr
            cases hr
            exact .inl rfl
        · exact .inr fun c hc => hd ⟨c, hc⟩
      exact apply_sound hP s hhd rfl (hE s.hw ⟨dst, op, ty, pos, after, gd⟩ hops) (not_call hy) (fun cs' => by rw [stepG_oper hm hy ho hwant hnd])
end
end Go.Am
end
section
set_option linter.unusedVariables false
namespace Go.Am
open Go Go.RowKit

theorem dropK_eq (gone : List Nat) : ∀ (l : List Nat) (kk : List Nat → R), dropK gone l kk = kk (l.filter fun x => !natIn x gone)
  | [], kk => rfl
  | x :: xs, kk => by
    simp only [dropK]
    cases hx : natIn x gone with
    | true => simp only [cond_true]; rw [dropK_eq gone xs]; simp [hx]
    | false => simp only [cond_false]; rw [dropK_eq gone xs]; simp [hx]

theorem DrawR.withPend {A : AP} {ops : Array Oper} {pend pend' rest X L : List Nat} (D : DrawR A ops pend rest X L) (hs : ∀ x ∈ X, x ∈ pend') : DrawR A ops pend' rest X L :=
  ⟨D.ok, D.sep, D.mem, D.nodup, D.xnodup, D.rnodup, D.disj, hs, D.lt, D.ord, D.arest, D.xpred, D.fl⟩

section
variable {P : Program} {A : AP} {ρ : Rho} {tm : T Value} {nt : Nat} {h : T Ob} {n B : Nat} {w0 w : World} {f0 : FuncId} {cs : List Frame}
variable {fn : FuncId} {k : List It} {ds : List Deferred} {kd : CallKind} {ro : Option Nat} {fcs : List Fr} {rf : Frame} {rcs : List Frame} {g G : List Nat}

/-- a sequenced operation of a region that draws -/
theorem g_seqd (hP : APOk P A) (hE : ExecOk P A) (hF : FloatOk A) (hL : AllocOk P A) {ops : Array Oper} {pend : List Nat} {i : Nat} {rest : List Nat} {dst : Option Tmp} {op : Op} {ty : TypeId} {pos : String} {after : Array Edge} {gd : Option (Nat × Bool)}
    (ho : ops.toList[i]? = some ⟨dst, op, ty, pos, after, gd⟩) 
    (s : St P A B w0 f0 ρ ⟨fn, tm, nt, .inDraw ops pend (i :: rest) :: k, ds, .run, kd, ro⟩ fcs h n rf rcs w g G) :
    Goal P A B w0 f0 cs rf rcs w (gSeqd ops pend i rest op (predsOfM .any ⟨dst, op, ty, pos, after, gd⟩) (wantedA gd ops.toList tm) A fn tm nt k ds kd ro fcs h n) := by
  unfold gSeqd
  cases hmay : mayBegin ops.toList i rest with
  | false => exact Goal.fail
  | true =>
    simp only [cond_true]
    cases hag : upTo (again A ops.toList tm h n) pend with
    | false => exact Goal.fail
    | true =>
      simp only [cond_true, dropK_eq]
      obtain ⟨X0, L0, k', d0, hk, rfl⟩ := s.draw
      obtain ⟨ρ1, X, L, rf1, w1, hst, he, d1, hsame⟩ := d0.catchAll hE hF hL rfl hmay (upTo_iff.1 hag)
      refine Goal.steps (rcs' := rcs) (hst (rcs ++ cs)) ?_
      have hpr : predsOf ops.toList i = predsOfM .any ⟨dst, op, ty, pos, after, gd⟩ := by simp [predsOf, ho]
      have hsub : ∀ x ∈ X, x ∈ pend.filter fun x => !natIn x (predsOfM .any ⟨dst, op, ty, pos, after, gd⟩) := by
        intro x hx
        rw [List.mem_filter]
        refine ⟨d1.D.sub x hx, ?_⟩
        cases hn : natIn x (predsOfM .any ⟨dst, op, ty, pos, after, gd⟩) with
        | false => rfl
        | true =>
          exfalso
          rw [← hpr] at hn
          exact d1.D.ord [] i L rfl x ((natIn_iff _ _).1 hn) ((d1.D.mem x).2 (.inl hx))
      have s1 := DSt.st he hsame s d1 hk
      have s2 : St P A B w0 f0 ρ1 ⟨fn, tm, nt, .inDraw ops (pend.filter fun x => !natIn x (predsOfM .any ⟨dst, op, ty, pos, after, gd⟩)) (i :: rest) :: k, ds, .run, kd, ro⟩ fcs h n rf1 rcs w1 (blks A ops tm X) G := by
        refine ⟨s1.hw, ⟨s1.fr.fn, s1.fr.kind, ?_, s1.fr.ds, s1.fr.mode, s1.fr.ro⟩, s1.cs, s1.g, s1.gl, s1.bot⟩
        simp only
        rw [d1.todo]
        exact .draw (hk.ext he) (d1.D.withPend hsub) d1.ht d1.dlt
      have hhd : Hd (.inDraw ops (pend.filter fun x => !natIn x (predsOfM .any ⟨dst, op, ty, pos, after, gd⟩)) (i :: rest) :: k) rf1.todo := by rw [d1.todo]; exact .draw
      have hwant := wanted_rel d1.D d1.ht ho
      have hops := d1.D.operands' d1.ht d1.gl ho
      cases hwa : wantedA gd ops.toList tm with
      | false =>
        rw [show wantedA (Oper.mk dst op ty pos after gd).guard ops.toList tm = false from hwa] at hwant
        simp only [cond_false]
        rcases fin (fun _ _ h => h) s2.fr hhd (v := undefV) (v' := Go.undef) (VRs.toTuple VRs.nil) fcs h n with ⟨why, h3⟩ | ⟨fr', h3, h4, h5⟩
        · rw [h3]; exact Goal.fail
        · rw [h3]; exact s2.top (step_notWanted d1.mode d1.todo ho hwant) h4 s2.g h5
      | true =>
        rw [show wantedA (Oper.mk dst op ty pos after gd).guard ops.toList tm = true from hwa] at hwant
        simp only [cond_true]
        by_cases hdd : (∃ c, op = .defer c) ∧ ∃ l, ro = some l
        · obtain ⟨⟨c, rfl⟩, l, rfl⟩ := hdd
          obtain ⟨why, hw⟩ := defer_fail (A := A) (tm := tm) (h := h) (n := n) (fn := fn) (nt := nt) (ds := ds) (kd := kd) (fcs := fcs) (c := c) (l := l) (todo := .inDraw ops (pend.filter fun x => !natIn x (predsOfM .any ⟨dst, .defer c, ty, pos, after, gd⟩)) (i :: rest) :: k)
          rw [hw]; exact Goal.fail
        have hnd : rf1.roundOf = none ∨ ∀ c, (Oper.mk dst op ty pos after gd).op ≠ .defer c := by
          by_cases hd : ∃ c, op = .defer c
          · obtain ⟨c, hc⟩ := hd
            have hr := s2.fr.ro
            simp only at hr
            cases ro with
            | some l => exact absurd ⟨⟨c, hc⟩, l, rfl⟩ hdd
            | none =>
              generalize hq : rf1.roundOf = q at hr
              cases hr
              exact .inl rfl
          · exact .inr fun c hc => hd ⟨c, hc⟩
        exact apply_sound hP s2 hhd rfl (hE s2.hw ⟨dst, op, ty, pos, after, gd⟩ hops) (not_call d1.todo) (fun cs' => by rw [stepG_oper d1.mode d1.todo ho hwant hnd])

theorem Topo.ordP {m : Region.Mode} {ops : List Oper} {left l : List Nat} (ht : Topo m ops [] left l) : ∀ l1 i l2, l = l1 ++ i :: l2 → ∀ j ∈ predsOf ops i, j ∉ i :: l2 := by
  intro l1 i l2 he j hj
  obtain ⟨o, ho, hp⟩ := ht.ord l1 i l2 he
  have hj' : j ∈ predsOfM .any o := by simpa [predsOf, ho] using hj
  have hj1 : j ∈ l1 := (hp j (preds_any hj')).resolve_left (by simp)
  have hn := ht.nodup
  rw [he, List.nodup_append] at hn
  exact fun hm => hn.2.2 j hj1 j hm rfl

theorem schedule_topo {ops : Array Oper} {l : List Nat} (hl : Topo .any ops.toList [] (List.range ops.size) l)
    (hd : Region.departs ops = false ∨ (topo .text ops.toList ops.size [] (List.range ops.size) = true ∧ topo .gc ops.toList ops.size [] (List.range ops.size) = true)) (mixed : Bool) (t : Nat) :
    ∃ m, Topo m ops.toList [] (List.range ops.size) (Region.schedule mixed ops t) := by
  unfold Region.schedule
  split
  · exact ⟨_, linearise_topo hl t⟩
  · rename_i hno
    rcases hd with hd | ⟨h1, h2⟩
    · rw [hd] at hno; simp at hno
    · split
      · obtain ⟨l1, hl1⟩ := topo_topo List.nodup_range h1
        exact ⟨_, linearise_topo hl1 _⟩
      · obtain ⟨l1, hl1⟩ := topo_topo List.nodup_range h2
        exact ⟨_, linearise_topo hl1 _⟩

/-- a region that draws is begun -/
theorem g_draw {id : Nat} {ops : Array Oper} (s : St P A B w0 f0 ρ ⟨fn, tm, nt, .code (.region id ops true) :: k, ds, .run, kd, ro⟩ fcs h n rf rcs w g G) :
    Goal P A B w0 f0 cs rf rcs w (gDraw ops A fn tm nt k ds kd ro fcs h n) := by
  obtain ⟨y, ys, hy, h1, h2, hg, ht, hm⟩ := s.plain (by simp)
  subst hg
  cases h1 with
  | code hc =>
    unfold gDraw
    split
    · rename_i l hplan
      unfold drawPlan at hplan
      rw [llen_eq] at hplan
      have hlen : ops.toList.length = ops.size := by simp
      rw [hlen] at hplan
      cases hck : (drawOk A ops.toList (List.range ops.size) && (!Region.departs ops || (topo .text ops.toList ops.size [] (List.range ops.size) && topo .gc ops.toList ops.size [] (List.range ops.size)))) with
      | false => rw [hck] at hplan; simp at hplan
      | true =>
        rw [hck] at hplan
        simp only [cond_true] at hplan
        simp only [Bool.and_eq_true, Bool.or_eq_true, Bool.not_eq_true'] at hck
        have hl := greedy_topo List.nodup_range hplan
        obtain ⟨m, hL⟩ := schedule_topo hl hck.2 (P.follows .mixedOrders) (w.tape w.drawn (.order rf.fn id))
        have hs : step P (lone rf (rcs ++ cs) w) = .next (lone { rf with todo := .inRegion ops (Region.schedule (P.follows .mixedOrders) ops (w.tape w.drawn (.order rf.fn id))) :: ys } (rcs ++ cs) { w with drawn := w.drawn + 1 }) :=
          step_lone_go (by simp [stepG, stepG.exec, hy, hm, choose, Sem.run, Question.forced, Question.cut])
        have hok : ∀ o ∈ ops.toList, operOk o = true := by simpa only [codeOk, List.all_eq_true] using hc
        refine ⟨_, rcs, _, Steps.one hs, ⟨ρ, [], G, s.hw.same rfl rfl rfl rfl, ⟨s.fr.fn, s.fr.kind, ?_, s.fr.ds, s.fr.mode, s.fr.ro⟩, s.cs, s.g, s.gl⟩, by have hb := s.bot; cases rcs <;> exact hb⟩
        have hD : DrawR A ops [] l [] (Region.schedule (P.follows .mixedOrders) ops (w.tape w.drawn (.order rf.fn id))) :=
          ⟨hok, hck.1, fun i => by rw [hL.mem, hl.mem]; simp, hL.nodup, List.nodup_nil, hl.nodup, by simp, by simp, fun i hi => by simpa using (hL.mem i).1 hi, hL.ordP, hl.ordP, by simp, by simp⟩
        exact .draw h2 hD (by simpa [dsts] using ht) (by simp [dsts])
    · exact Goal.fail
end
end Go.Am
end
section
set_option linter.unusedVariables false
namespace Go.Am
open Go Go.RowKit

section
variable {P : Program} {A : AP} {ρ : Rho} {h : T Ob} {n B : Nat} {w0 w : World} {f0 : FuncId} {cs : List Frame}

theorem GOk.right {g G : List Nat} (hg : GOk ρ n (g ++ G)) : GOk ρ n G := by
  obtain ⟨h1, h2⟩ := hg
  rw [List.nodup_append] at h1
  exact ⟨h1.2.1, fun b hb => h2 b (by simp [hb])⟩

/-- a frame is left with a value, for one that waits -/
theorem leaveUp_sound {c : Fr} {rest : List Fr} {rf : Frame} {rcs : List Frame} {g G : List Nat} {kd : CallKind} (hw : WR P ρ h n B w0 w) (hkd : rf.kind = kd) (hc : FrRs A ρ (c :: rest) rcs G) (hg : GOk ρ n (g ++ G)) (hgl : Globs ρ) (hb : (bot rf rcs).fn = f0)
    {v v' : Value} (hv : VR ρ v v') {rf0 : Frame} {w1 : World} (hreal : (stepG P true { frame := rf0, callers := rcs ++ cs, status := .running, dying := none } w1).bare = (doReturn P true rf (rcs ++ cs) none v' w).bare) :
    Goal P A B w0 f0 cs rf0 rcs w1 (leaveUp kd c rest h n v) := by
  cases hc with
  | @cons _ rc _ rrest g1 G1 hfc hdc hcs =>
    have hg1 := hg.right
    unfold leaveUp
    split
    · rcases fin (fun _ _ h => h) hfc hdc hv rest h n with ⟨why, h1⟩ | ⟨fr', h1, h2, h3⟩
      · rw [h1]; exact Goal.fail
      · rw [h1]
        refine ⟨rc.finish v', rrest, w, Steps.one (step_lone_go ?_), ⟨ρ, g1, G1, hw, h2, hcs, hg1, hgl⟩, ?_⟩
        · rw [hreal]; simp [doReturn, hkd]
        · have := hb; rw [bot_push] at this; rw [bot_upd rrest h3]; exact this
    · split
      · rename_i fn tm nt todo ds pv g2 older kd' ro'
        split
        · have hmc := hfc.mode
          simp only at hmc
          generalize hrm : rc.mode = m at hmc
          cases hmc with
          | panicking hp =>
            cases hp with
            | cons hv2 hp2 =>
              cases hp2
              refine ⟨{ rc with mode := .returning }, rrest, w, Steps.one (step_lone_go ?_), ⟨ρ, g1, G1, hw, ⟨hfc.fn, hfc.kind, hfc.body, hfc.ds, .returning, hfc.ro⟩, hcs, hg1, hgl⟩, ?_⟩
              · rw [hreal]; simp [doReturn, hkd, hrm]
              · have := hb; rw [bot_push] at this; cases rrest <;> exact this
        · exact Goal.fail
      · exact Goal.fail
      · rename_i hno1 hno2
        refine ⟨rc, rrest, w, Steps.one (step_lone_go ?_), ⟨ρ, g1, G1, hw, hfc, hcs, hg1, hgl⟩, by have := hb; rw [bot_push] at this; exact this⟩
        rw [hreal]
        have hmc := hfc.mode
        generalize hrm : rc.mode = m at hmc
        generalize hcm : c.mode = m2 at hmc
        cases hmc with
        | panicking hp =>
          exfalso
          obtain ⟨fn, tm, nt, todo, ds, md, kd', ro'⟩ := c
          simp only at hcm
          subst hcm
          exact hno2 _ _ _ _ _ _ _ _ rfl
        | run => simp [doReturn, hkd, hrm]
        | returning => simp [doReturn, hkd, hrm]
    · exact Goal.fail
end
end Go.Am
end
