/- The machine's steps, part 3: what the machine comes to, the program comes to. -/
import Derived.Test.YtbofhnjjlbjmcaaGreatDoorAmF
import Derived.Test.YtbofhnjjlbjmcaaGreatDoorAmC
import Derived.KernelRfl
set_option linter.unusedVariables false
set_option linter.unusedSimpArgs false
section
set_option linter.unusedVariables false
namespace Go.Am
open Go Go.RowKit

section
variable {P : Program} {A : AP} {ρ : Rho} {tm : T Value} {nt : Nat} {h : T Ob} {n B : Nat} {w0 w : World} {f0 : FuncId} {cs : List Frame}
variable {fn : FuncId} {k : List It} {ds : List Deferred} {kd : CallKind} {ro : Option Nat} {fcs : List Fr} {rf : Frame} {rcs : List Frame} {g G : List Nat}

/-- a loop's object written in both -/
theorem loop_set (hw : WR P ρ h n B w0 w) {l : Nat} {e : Ent} {st : LoopState} {pend : Option Code} {fn' : FuncId} {tm' : T Value} {nt' : Nat} {ps : Array Tmp} {asg body : Code} {d : Nat} (hl : h.get l = some (.loop st pend fn' tm' nt' ps asg body d)) (he : ρ l = some e)
    {st2 : LoopState} {pend2 : Option Code} {h' : T Ob} (hpe : ∀ c, pend2 = some c → codeOk c = true) (hp : h.put l (.loop st2 pend2 fn' tm' nt' ps asg body d) = some h') :
    ∃ lp : Loop, w.heap[e.r]? = some (.loop lp) ∧ lp.state = st ∧ lp.pending = pend ∧ (∀ c, pend = some c → codeOk c = true) ∧ WR P ρ h' n B w0 { w with heap := w.heap.setIfInBounds e.r (.loop { lp with state := st2, pending := pend2 }) } := by
  obtain ⟨tr, e', h1, h2, h3, h4, h5, h6⟩ := hw.live l _ hl e he
  exact ⟨_, h1, rfl, rfl, h6, hw.setOb hl rfl he hp fun heap hh => ⟨tr, e', hh, h2, h3, h4, h5, hpe⟩⟩

theorem run_getLoop {r : Nat} {lp : Loop} (hh : w.heap[r]? = some (.loop lp)) : (Instr.getLoop r).run P w = .ok lp w := by
  simp [Instr.getLoop, run_getOb hh (by simp)]

/-- a round ends -/
theorem endRound_sound (s : St P A B w0 f0 ρ ⟨fn, tm, nt, k, ds, .run, kd, ro⟩ fcs h n rf rcs w g G) {l : Nat} (hro : ro = some l) {jump : Option Code} (hj : ∀ c, jump = some c → codeOk c = true)
    (hreal : ∀ e, rf.roundOf = some e → ∀ v w2, (Instr.endRound e jump).run P w = .ok v w2 → (stepG P true { frame := rf, callers := rcs ++ cs, status := .running, dying := none } w).bare = (doReturn P true rf (rcs ++ cs) none v w2).bare) :
    Goal P A B w0 f0 cs rf rcs w (endRoundA kd fcs l jump h n) := by
  subst hro
  have hr := s.fr.ro
  simp only at hr
  generalize hq : rf.roundOf = q at hr
  cases hr with
  | @yes _ e he =>
    unfold endRoundA
    split
    · exact Goal.fail
    · rename_i c rest
      split
      · rename_i st pd fn' tm' nt' ps asg body d hl
        split
        · rw [T.setK_eq]
          split
          · rename_i h' hp
            obtain ⟨lp, h1, _, _, _, hw2⟩ := loop_set s.hw hl he (by first | exact hj | simp) hp
            have hrun : (Instr.endRound e.r none).run P w = .ok (.bool true) { w with heap := w.heap.setIfInBounds e.r (.loop { lp with state := .ready, pending := none }) } := by
              simp [Instr.endRound, run_getLoop h1, run_setOb h1 (by simp)]
            exact leaveUp_sound hw2 s.fr.kind s.cs s.g s.gl s.bot (.bool true) (hreal _ hq _ _ hrun)
          · exact Goal.fail
        · rename_i j
          rw [T.setK_eq]
          split
          · rename_i h' hp
            obtain ⟨lp, h1, _, _, _, hw2⟩ := loop_set s.hw hl he (by first | exact hj | simp) hp
            have hrun : (Instr.endRound e.r (some j)).run P w = .ok (.bool false) { w with heap := w.heap.setIfInBounds e.r (.loop { lp with state := .done, pending := some j }) } := by
              simp [Instr.endRound, run_getLoop h1, run_setOb h1 (by simp)]
            exact leaveUp_sound hw2 s.fr.kind s.cs s.g s.gl s.bot (.bool false) (hreal _ hq _ _ hrun)
          · exact Goal.fail
      · exact Goal.fail
end
end Go.Am
end
section
set_option linter.unusedVariables false
namespace Go.Am
open Go Go.RowKit

section
variable {P : Program} {A : AP} {ρ : Rho} {tm : T Value} {nt : Nat} {h : T Ob} {n B : Nat} {w0 w : World} {f0 : FuncId} {cs : List Frame}
variable {fn : FuncId} {k : List It} {ds : List Deferred} {kd : CallKind} {ro : Option Nat} {fcs : List Fr} {rf : Frame} {rcs : List Frame} {g G : List Nat}

theorem g_ret (s : St P A B w0 f0 ρ ⟨fn, tm, nt, .code .ret :: k, ds, .run, kd, ro⟩ fcs h n rf rcs w g G) :
    Goal P A B w0 f0 cs rf rcs w (gRet A fn tm nt k ds kd ro fcs h n) := by
  obtain ⟨y, ys, hy, h1, h2, hg, ht, hm⟩ := s.plain (by simp)
  cases h1
  unfold gRet
  split
  · have hr := s.fr.ro
    generalize hq : rf.roundOf = q at hr
    cases hr
    subst hg
    refine s.top (rf' := { rf with mode := .returning }) (step_lone_go (by simp [stepG, stepG.exec, hy, hm, hq])) ⟨s.fr.fn, s.fr.kind, ?_, s.fr.ds, .returning, s.fr.ro⟩ s.g rfl
    simp only
    rw [hy]
    exact .plain (.cons (.code rfl) h2) ht
  · refine endRound_sound s rfl (by simp [codeOk]) fun e he v w2 hr => ?_
    simp [stepG, stepG.exec, hy, hm, he, hr]

theorem g_nil (s : St P A B w0 f0 ρ ⟨fn, tm, nt, [], ds, .run, kd, ro⟩ fcs h n rf rcs w g G) :
    Goal P A B w0 f0 cs rf rcs w (goNil A fn tm nt [] ds kd ro fcs h n) := by
  have hm := mode_run s.fr.mode
  have hb := s.fr.body
  simp only at hb
  generalize hy : rf.todo = ys at hb
  cases hb with
  | plain h1 h2 =>
    cases h1
    unfold goNil
    split
    · have hr := s.fr.ro
      generalize hq : rf.roundOf = q at hr
      cases hr
      refine s.top (rf' := { rf with mode := .returning }) (step_lone_go (by simp [stepG, stepG.exec, hy, hm, hq])) (g' := []) ⟨s.fr.fn, s.fr.kind, ?_, s.fr.ds, .returning, s.fr.ro⟩ s.g rfl
      simp only
      rw [hy]
      exact .plain .nil h2
    · refine endRound_sound s rfl (by simp [codeOk]) fun e he v w2 hr => ?_
      simp [stepG, stepG.exec, hy, hm, he, hr]

theorem g_exit {id : Nat} (s : St P A B w0 f0 ρ ⟨fn, tm, nt, .code (.exit id) :: k, ds, .run, kd, ro⟩ fcs h n rf rcs w g G) :
    Goal P A B w0 f0 cs rf rcs w (gExit id A fn tm nt k ds kd ro fcs h n) := by
  obtain ⟨y, ys, hy, h1, h2, hg, ht, hm⟩ := s.plain (by simp)
  cases h1
  unfold gExit
  split
  · rename_i k' he
    obtain ⟨ys', g1, g2⟩ := exitTo_rel h2 he
    exact s.to hg ht g2 (step_lone_go (by simp [stepG, stepG.exec, hy, hm, g1]))
  · rename_i he
    have g1 := exitTo_none h2 he
    split
    · exact Goal.fail
    · refine endRound_sound s rfl (by simp [codeOk]) fun e he v w2 hr => ?_
      simp [stepG, stepG.exec, hy, hm, g1, he, hr]
end
end Go.Am
end
section
set_option linter.unusedVariables false
namespace Go.Am
open Go Go.RowKit

section
variable {P : Program} {A : AP} {ρ : Rho} {tm : T Value} {nt : Nat} {h : T Ob} {n B : Nat} {w0 w : World} {f0 : FuncId} {cs : List Frame}
variable {fn : FuncId} {k : List It} {ds : List Deferred} {kd : CallKind} {ro : Option Nat} {fcs : List Fr} {rf : Frame} {rcs : List Frame} {g G : List Nat}

theorem g_begin (s : St P A B w0 f0 ρ ⟨fn, tm, nt, .beginRound :: k, ds, .run, kd, ro⟩ fcs h n rf rcs w g G) :
    Goal P A B w0 f0 cs rf rcs w (gBegin A fn tm nt k ds kd ro fcs h n) := by
  obtain ⟨y, ys, hy, h1, h2, hg, ht, hm⟩ := s.plain (by simp)
  cases h1
  subst hg
  unfold gBegin
  split
  · rename_i l
    have hr := s.fr.ro
    simp only at hr
    generalize hq : rf.roundOf = q at hr
    cases hr with
    | @yes _ e he =>
      split
      · rename_i pd fn' tm' nt' ps asg body d hl
        rw [T.setK_eq]
        split
        · rename_i h' hp
          obtain ⟨tr, e', q1, _, _, _, _, hpo⟩ := s.hw.live l _ hl e he
          obtain ⟨lp, g1, g2, _, _, hw2⟩ := loop_set s.hw hl he hpo hp
          rw [g1] at q1
          simp only [Option.some.injEq, Obj.loop.injEq] at q1
          have hpd : lp.pending = pd := by rw [q1]
          have hrun : (Instr.beginRound e.r).run P w = .ok () { w with heap := w.heap.setIfInBounds e.r (.loop { lp with state := .busy, pending := pd }) } := by
            simp [Instr.beginRound, run_getLoop g1, run_setOb g1 (by simp), g2, ← hpd]
          refine ⟨{ rf with todo := ys }, rcs, _, Steps.one (step_lone_go ?_), ⟨ρ, [], G, hw2, ⟨s.fr.fn, s.fr.kind, .plain h2 ht, s.fr.ds, s.fr.mode, s.fr.ro⟩, s.cs, s.g, s.gl⟩, by have hb := s.bot; cases rcs <;> exact hb⟩
          simp [stepG, stepG.exec, hy, hm, hq, stepG.apply, hrun, Frame.finish]
        · exact Goal.fail
      · exact Goal.fail
  · exact Goal.fail

theorem g_endRange {l : Nat} (s : St P A B w0 f0 ρ ⟨fn, tm, nt, .endRangeFunc l :: k, ds, .run, kd, ro⟩ fcs h n rf rcs w g G) :
    Goal P A B w0 f0 cs rf rcs w (gEndRange l A fn tm nt k ds kd ro fcs h n) := by
  obtain ⟨y, ys, hy, h1, h2, hg, ht, hm⟩ := s.plain (by simp)
  cases h1 with
  | @endRangeFunc _ e he =>
    subst hg
    unfold gEndRange
    split
    · rename_i st pd fn' tm' nt' ps asg body d hl
      split
      · exact Goal.fail
      · rename_i hst
        rw [T.setK_eq]
        split
        · rename_i h' hp
          obtain ⟨tr, e', q1, _, _, _, _, hpo⟩ := s.hw.live l _ hl e he
          obtain ⟨lp, g1, g2, g3, _, hw2⟩ := loop_set s.hw hl he hpo hp
          have hnb : ¬ lp.state = LoopState.busy := by rw [g2]; exact hst
          have hrun : (Instr.endLoop e.r).run P w = .ok pd { w with heap := w.heap.setIfInBounds e.r (.loop { lp with state := .exhausted, pending := pd }) } := by
            subst g3
            simp [Instr.endLoop, run_getLoop g1, run_setOb g1 (by simp), hnb]
          cases pd with
          | none =>
            refine ⟨{ rf with todo := ys }, rcs, _, Steps.one (step_lone_go ?_), ⟨ρ, [], G, hw2, ⟨s.fr.fn, s.fr.kind, .plain h2 ht, s.fr.ds, s.fr.mode, s.fr.ro⟩, s.cs, s.g, s.gl⟩, by have hb := s.bot; cases rcs <;> exact hb⟩
            simp [stepG, stepG.exec, hy, hm, hrun]
          | some c =>
            refine ⟨{ rf with todo := .code c :: ys }, rcs, _, Steps.one (step_lone_go ?_), ⟨ρ, [], G, hw2, ⟨s.fr.fn, s.fr.kind, .plain (.cons (.code (hpo c rfl)) h2) ht, s.fr.ds, s.fr.mode, s.fr.ro⟩, s.cs, s.g, s.gl⟩, by have hb := s.bot; cases rcs <;> exact hb⟩
            simp [stepG, stepG.exec, hy, hm, hrun]
        · exact Goal.fail
    · exact Goal.fail
end
end Go.Am
end
section
set_option linter.unusedVariables false
namespace Go.Am
open Go Go.RowKit

section
variable {P : Program} {A : AP} {ρ : Rho} {tm : T Value} {nt : Nat} {h : T Ob} {n B : Nat} {w0 w : World} {f0 : FuncId} {cs : List Frame}
variable {fn : FuncId} {k : List It} {ds : List Deferred} {kd : CallKind} {ro : Option Nat} {fcs : List Fr} {rf : Frame} {rcs : List Frame} {g G : List Nat}

/-- a loop over a function is begun -/
theorem g_rangeFunc (hA : APOk P A) (hS : SumsOk P A) {f : Operand} {ps : Array Tmp} {asg body : Code}
    (s : St P A B w0 f0 ρ ⟨fn, tm, nt, .code (.rangeFunc f ps asg body) :: k, ds, .run, kd, ro⟩ fcs h n rf rcs w g G) :
    Goal P A B w0 f0 cs rf rcs w (gRangeFunc f ps asg body A fn tm nt k ds kd ro fcs h n) := by
  obtain ⟨y, ys, hy, h1, h2, hg, ht, hm⟩ := s.plain (by simp)
  subst hg
  cases h1 with
  | code hc =>
    simp only [codeOk, Bool.and_eq_true] at hc
    unfold gRangeFunc
    split
    · exact Goal.fail
    · have hr := s.fr.ro
      generalize hq : rf.roundOf = q at hr
      cases hr
      rw [newK_eq]
      split
      · rename_i t1 hp1
        rw [newK_eq]
        split
        · rename_i t2 hp2
          have hwa := s.hw.new (e := ⟨w.heap.size, 0, 0⟩) (o := .deferred (some [])) rfl hp1 (show OR P _ _ _ (.deferred (some [])) from by simp [OR])
          let lp : Loop := { state := .ready, pending := none, fn := rf.fn, tmps := rf.tmps, params := ps, assign := asg, body := body, defers := w.heap.size }
          have hext1 := s.hw.ext_add ⟨w.heap.size, 0, 0⟩
          have hwb := hwa.new (e := ⟨w.heap.size + 1, 0, 0⟩) (o := .loop lp) (by simp) hp2 (by
            refine ⟨rf.tmps, ⟨w.heap.size, 0, 0⟩, ?_, ?_, ?_, hc.1.2, hc.2, by simp⟩
            · have hfn := s.fr.fn
              simp only at hfn
              have hsz : (w.heap.push (Obj.deferred (some []))).size = w.heap.size + 1 := by simp
              show ((w.heap.push (Obj.deferred (some []))).push (Obj.loop lp))[w.heap.size + 1]? = _
              rw [← hsz, Array.getElem?_push_size]
              simp [lp, hfn]
            · exact ⟨ht.1, fun t => ((ht.2 t (by simp)).ext hext1.1).ext (hwa.ext_add _).1⟩
            · rw [Rho.add_ne _ _ (by omega)]; exact Rho.add_self _ _ _)
          have hext2 := hwa.ext_add ⟨w.heap.size + 1, 0, 0⟩
          have hext : Ext ρ ((ρ.add n ⟨w.heap.size, 0, 0⟩).add (n + 1) ⟨w.heap.size + 1, 0, 0⟩) n := hext1.trans hext2 (by omega)
          have hρd : ((ρ.add n ⟨w.heap.size, 0, 0⟩).add (n + 1) ⟨w.heap.size + 1, 0, 0⟩) n = some ⟨w.heap.size, 0, 0⟩ := by rw [Rho.add_ne _ _ (by omega)]; exact Rho.add_self _ _ _
          have hρl : ((ρ.add n ⟨w.heap.size, 0, 0⟩).add (n + 1) ⟨w.heap.size + 1, 0, 0⟩) (n + 1) = some ⟨w.heap.size + 1, 0, 0⟩ := Rho.add_self _ _ _
          have hfr := s.fr.ext hext.1
          have s2 : St P A B w0 f0 ((ρ.add n ⟨w.heap.size, 0, 0⟩).add (n + 1) ⟨w.heap.size + 1, 0, 0⟩) ⟨fn, tm, nt, .inRangeFunc (n + 1) :: k, ⟨.collected n, #[]⟩ :: ds, .run, kd, none⟩ fcs t2 (n + 1 + 1)
              { rf with todo := .inRangeFunc (w.heap.size + 1) :: ys, defers := { target := .collected w.heap.size, args := #[] } :: rf.defers } rcs { w with heap := (w.heap.push (.deferred (some []))).push (.loop lp) } [] G := by
            refine ⟨hwb, ⟨hfr.fn, hfr.kind, ?_, .cons ⟨⟨_, hρd, rfl⟩, rfl, rfl⟩ hfr.ds, hfr.mode, hfr.ro⟩, s.cs.ext hext.1, s.g.ext hext (by omega), s.gl.ext hext.1, ?_⟩
            · exact .plain (.cons (.inRangeFunc hρl) (h2.ext hext.1)) (ht.ext hext.1)
            · have hb := s.bot; cases rcs <;> exact hb
          have hv : VR ((ρ.add n ⟨w.heap.size, 0, 0⟩).add (n + 1) ⟨w.heap.size + 1, 0, 0⟩) (ev tm f) (rf.eval f) := rf_eval (ht.ext hext.1) (s.gl.ext hext.1) hc.1.1 (fun t _ => by simp)
          have hsim := sim_callVal (P := P) hA hS hwb hv (args := [.func (.yield (n + 1)) #[] #[]]) (args' := #[.func (.yield (w.heap.size + 1)) #[] #[]]) (VRs.cons (.yield hρl) VRs.nil)
          refine apply_sound hA s2 (.plain (by simp)) rfl hsim (by simp) (fun cs' => ?_)
          have hrun : (Instr.enterLoop rf.fn rf.tmps ps asg body none).run P w = .ok (w.heap.size + 1, [{ target := .collected w.heap.size, args := #[] }]) { w with heap := (w.heap.push (.deferred (some []))).push (.loop lp) } := by
            simp [Instr.enterLoop, lp]
            rfl
          have hres : ∀ (rf' : Frame), rf'.tmps = rf.tmps → (do let d ← resolve rf'.eval { callee := .value f, args := #[.const (.func (.yield (w.heap.size + 1)) #[] #[])], argTypes := #[] } 0; invoke d.target d.args : Sem Next) = (do let d ← Deferred.ofValue (rf.eval f) #[.func (.yield (w.heap.size + 1)) #[] #[]]; invoke d.target d.args) := by
            intro rf' hrf
            have h1 : rf'.eval f = rf.eval f := by cases f <;> simp [Frame.eval, hrf]
            have h2 : rf'.eval (.const (.func (.yield (w.heap.size + 1)) #[] #[])) = .func (.yield (w.heap.size + 1)) #[] #[] := rfl
            simp only [resolve, h1, List.map_toArray, List.map_cons, List.map_nil, h2]
          simp only [stepG, stepG.exec, hy, hm, hq, Sem.runT_eq, hrun, GStep.bare_after]
          rw [hres]
          · rfl
          · rfl
        · exact Goal.fail
      · exact Goal.fail
end
end Go.Am
end
section
set_option linter.unusedVariables false
namespace Go.Am
open Go Go.RowKit

section
variable {P : Program} {A : AP} {ρ : Rho} {tm : T Value} {nt : Nat} {h : T Ob} {n B : Nat} {w0 w : World} {f0 : FuncId} {cs : List Frame}
variable {fn : FuncId} {todo : List It} {ds : List Deferred} {md : FrameMode} {kd : CallKind} {ro : Option Nat} {fcs : List Fr} {rf : Frame} {rcs : List Frame} {g G : List Nat}

theorem isDraw_plain {xs : List It} (h : isDraw xs = false) : ∀ ops pend l k, xs ≠ .inDraw ops pend l :: k := by
  rintro ops pend l k rfl; simp [isDraw] at h
theorem body_plain {ρ : Rho} {xs : List It} {ys : List Item} {tr : Array Value} {g : List Nat} (hb : BodyR A ρ tm nt tr xs ys g) (h : isDraw xs = false) : g = [] ∧ TRx ρ [] tm nt tr := by
  cases hb with
  | plain h1 h2 => exact ⟨rfl, h2⟩
  | draw => simp [isDraw] at h

theorem run_asAddr {a : Addr} : (asAddr (.pointer (some a))).run P w = .ok a w := rfl
/-- the results of a function -/
theorem results_rel (hA : APOk P A) (hw : WR P ρ h n B w0 w) {tr : Array Value} (ht : TRx ρ [] tm nt tr) : ∀ (rs : List ResultVar) (kk : List Value → R),
    (∃ why, resultsA A rs tm h kk = .fail why) ∨ ∃ vs vs', resultsA A rs tm h kk = kk vs ∧ VRs ρ vs vs' ∧
      (rs.mapM (m := Sem) fun | .tmp t => pure (tr.getD t Go.undef) | .cell a t => do loadVar t (← asAddr (tr.getD a Go.undef))).run P w = .ok vs' w
  | [], kk => .inr ⟨[], [], rfl, VRs.nil, rfl⟩
  | .tmp t :: rs, kk => by
    simp only [resultsA, evK_eq]
    rcases results_rel hA hw ht rs (fun l => kk (ev tm (.tmp t) :: l)) with ⟨why, h1⟩ | ⟨vs, vs', h1, h2, h3⟩
    · exact .inl ⟨why, h1⟩
    · refine .inr ⟨ev tm (.tmp t) :: vs, tr.getD t Go.undef :: vs', h1, VRs.cons (ht.2 t (by simp)) h2, ?_⟩
      rw [List.mapM_cons]
      simp only [Sem.run_bind, Sem.run_pure, Result.andThen_ok, h3]
  | .cell a t :: rs, kk => by
    simp only [resultsA]
    split
    · rename_i ad had
      have hv := ht.2 a (by simp)
      rw [had] at hv
      generalize hr : tr.getD a Go.undef = r at hv
      have hv2 := hv
      cases hv with
      | @ptr b o e he =>
        have hl := sim_loadK (P := P) hA hw hv2 (t := t)
        have hmap : ∀ (kk2 : Value → R), loadK A t ⟨b, o, none⟩ h (R.fail 210) kk2 = match loadK A t ⟨b, o, none⟩ h none some with | some x => kk2 x | none => R.fail 210 := by
          intro kk2
          simp only [loadK]
          split
          · split
            · split
              · unfold loadCells
                rename_i agg _ _ _ _
                cases agg with
                | true => simp only [cond_true, ltakeK_eq]; split <;> rfl
                | false =>
                  simp only [cond_false, vK_eq]
                  split <;> rfl
              · rfl
            · rfl
          · rfl
        rw [hmap]
        split
        · rename_i x hx
          obtain ⟨x', g1, g2⟩ := hl x hx
          rcases results_rel hA hw ht rs (fun l => kk (x :: l)) with ⟨why, h1⟩ | ⟨vs, vs', h1, h2, h3⟩
          · exact .inl ⟨why, h1⟩
          · refine .inr ⟨x :: vs, x' :: vs', h1, VRs.cons g2 h2, ?_⟩
            rw [List.mapM_cons]
            simp only [hr, Sem.run_bind, run_asAddr, g1, Result.andThen_ok, h3, Sem.run_pure]
        · exact .inl ⟨_, rfl⟩
    · exact .inl ⟨_, rfl⟩

theorem run_takeDeferred {r : Nat} (hh : w.heap[r]? = some (.deferred (some []))) : (Instr.takeDeferred r).run P w = .ok [] { w with heap := w.heap.setIfInBounds r (.deferred none) } := by
  simp [Instr.takeDeferred, run_getOb hh (by simp), run_setOb hh (by simp)]

theorem DR.collected {b : Nat} {args : Array Value} {d' : Deferred} (h : DR ρ ⟨.collected b, args⟩ d') : ∃ e args', ρ b = some e ∧ d' = ⟨.collected e.r, args'⟩ := by
  obtain ⟨t, args'⟩ := d'
  cases t with
  | collected r =>
    obtain ⟨⟨e, h1, h2⟩, _⟩ := h
    subst h2
    exact ⟨e, args', h1, rfl⟩
  | _ => exact h.elim
theorem DR.ofFn {fv : Fn} {cap : Array Value} {args : Array Value} {d' : Deferred} (h : DR ρ ⟨.fn fv cap, args⟩ d') : ∃ f c' args', fv = .func f ∧ d' = ⟨.fn (.func f) c', args'⟩ ∧ VRs ρ cap.toList c'.toList ∧ VRs ρ args.toList args'.toList := by
  obtain ⟨t, args'⟩ := d'
  cases fv with
  | func f =>
    cases t with
    | fn fv' c' =>
      cases fv' with
      | func g =>
        obtain ⟨rfl, h2, h3⟩ := h
        exact ⟨f, c', args', rfl, rfl, h2, h3⟩
      | _ => exact h.elim
    | _ => exact h.elim
  | _ => cases t <;> exact h.elim

/-- the collected calls of a loop, deferred calls -/
theorem g_unwind_deferred (hA : APOk P A) (hS : SumsOk P A) {d : Deferred} (hmd : md ≠ .run)
    (s : St P A B w0 f0 ρ ⟨fn, tm, nt, todo, d :: ds, md, kd, ro⟩ fcs h n rf rcs w g G) :
    Goal P A B w0 f0 cs rf rcs w (goUnwind md A fn tm nt todo (d :: ds) kd ro fcs h n) := by
  have hmode : rf.mode ≠ .run := by
    have hm := s.fr.mode
    simp only at hm
    generalize hq : rf.mode = q at hm
    cases hm with
    | run => exact absurd rfl hmd
    | returning => simp
    | panicking => simp
  have hds := s.fr.ds
  simp only at hds
  generalize hq : rf.defers = rds at hds
  cases hds with
  | @cons _ d' _ ds' hd hds' =>
    obtain ⟨tgt, args⟩ := d
    unfold goUnwind
    cases tgt with
    | collected b =>
      simp only
      obtain ⟨e, args', he, rfl⟩ := hd.collected
      split
      · rename_i hb
        rw [T.setK_eq]
        split
        · rename_i h' hp
          have q1 : w.heap[e.r]? = some (.deferred (some [])) := s.hw.live _ _ hb e he
          have hw2 := s.hw.setOb hb rfl he hp (o := .deferred none) (fun heap hh => trivial)
          have hrun := run_takeDeferred (P := P) q1
          refine ⟨{ rf with defers := ds' }, rcs, _, Steps.one (step_lone_go ?_), ⟨ρ, g, G, hw2, ⟨s.fr.fn, s.fr.kind, s.fr.body, hds', s.fr.mode, s.fr.ro⟩, s.cs, s.g, s.gl⟩, by have hb := s.bot; cases rcs <;> exact hb⟩
          cases hmm : rf.mode with
          | run => exact absurd hmm hmode
          | returning => simp [stepG, unwind, hmm, hq, hrun]
          | panicking c => simp [stepG, unwind, hmm, hq, hrun]
        · exact Goal.fail
      · exact Goal.fail
    | fn fv cap =>
      obtain ⟨args⟩ := args
      simp only
      obtain ⟨f, c', args', rfl, rfl, hc, ha⟩ := hd.ofFn
      cases hdraw : isDraw todo with
      | true => exact Goal.fail
      | false =>
        rw [cond_false]
        have hv : VR ρ (.func (.func f) #[] cap) (.func (.func f) #[] c') := .func f rfl (fun i x y hx => by simp at hx) (by have := hc.1; simpa using this) (fun i x y hx hy => hc.2 i x y (by simpa using hx) (by simpa using hy))
        have hsim := sim_callVal (P := P) hA hS s.hw hv (args := args) (args' := args') ha
        have hinv : (do let d ← Deferred.ofValue (.func (.func f) #[] c') args'; invoke d.target d.args : Sem Next) = invoke (.fn (.func f) c') args' := by
          show invoke (.fn (.func f) c') (#[] ++ args') = _
          rw [Array.empty_append]
        rw [hinv] at hsim
        split
        · rename_i f2 as h' n' hcall
          rcases hsim _ _ _ hcall with ⟨v, v', h1, _⟩ | ⟨nx, w', ρ', hr, hext, hn, hw', hnx⟩
          · simp at h1
          · cases hnx with
            | @enter _ _ bs hvs =>
              rcases enter_rel hA hvs (kd := .deferred) (fun g => R.next ⟨g, ⟨fn, tm, nt, todo, ds, md, kd, ro⟩ :: fcs, h', n'⟩) with ⟨why, h1⟩ | ⟨fr', h1, h2⟩
              · rw [h1]; exact Goal.fail
              · rw [h1]
                have hfr := s.fr.ext hext.1
                refine ⟨Frame.enter P f2 bs .deferred, { rf with defers := ds' } :: rcs, w', Steps.one (step_lone_go ?_), ⟨ρ', [], g ++ G, hw', h2, .cons ⟨hfr.fn, hfr.kind, hfr.body, hds'.ext hext.1, hfr.mode, hfr.ro⟩ (.plain (isDraw_plain hdraw)) (s.cs.ext hext.1), by simpa using s.g.ext hext hn, s.gl.ext hext.1⟩, ?_⟩
                · cases hmm : rf.mode with
                  | run => exact absurd hmm hmode
                  | returning => simp [stepG, unwind, callDeferred, hmm, hq, hr]
                  | panicking c => simp [stepG, unwind, callDeferred, hmm, hq, hr]
                · have hb := s.bot; cases rcs <;> exact hb
        · exact Goal.fail
    | _ => exact Goal.fail
end
end Go.Am
end
section
set_option linter.unusedVariables false
namespace Go.Am
open Go Go.RowKit

section
variable {P : Program} {A : AP} {ρ : Rho} {tm : T Value} {nt : Nat} {h : T Ob} {n B : Nat} {w0 w : World} {f0 : FuncId} {cs : List Frame}
variable {fn : FuncId} {todo : List It} {ds : List Deferred} {md : FrameMode} {kd : CallKind} {ro : Option Nat} {fcs : List Fr} {rf : Frame} {rcs : List Frame} {g G : List Nat}

theorem g_unwind_panic (hA : APOk P A) {ch : List PanicEntry}
    (s : St P A B w0 f0 ρ ⟨fn, tm, nt, todo, [], .panicking ch, kd, ro⟩ fcs h n rf rcs w g G) :
    Goal P A B w0 f0 cs rf rcs w (goUnwind (.panicking ch) A fn tm nt todo [] kd ro fcs h n) := by
  unfold goUnwind
  simp only
  split
  · rename_i f hf
    have hP := hA.funcs _ _ hf
    split
    · rename_i c rest
      have hm := s.fr.mode
      simp only at hm
      generalize hq : rf.mode = q at hm
      cases hm with
      | @panicking _ ys hp =>
        have hds := s.fr.ds
        simp only at hds
        generalize hqd : rf.defers = rds at hds
        cases hds
        have hcs := s.cs
        have hb := s.bot
        cases hcs with
        | @cons _ rc _ rrest g1 G1 hfc hdc hcs' =>
          obtain ⟨fr', h1, h2, h3⟩ := raise_rel hfc hp rest h n
          rw [h1]
          have hfn := s.fr.fn
          simp only at hfn
          refine ⟨rc.raise ys, rrest, w, Steps.one (step_lone_go ?_), ⟨ρ, g1, G1, s.hw, h2, hcs', s.g.right, s.gl⟩, ?_⟩
          · have hcatch : rf.catches P = false := by simp [Frame.catches, hfn, hP]
            simp [stepG, unwind, hq, hqd, hcatch]
          · rw [bot_push] at hb
            rw [bot_upd rrest h3]; exact hb
    · exact Goal.fail
  · exact Goal.fail

def oneOr : List Value → Value
  | [v] => v
  | l => .tuple ⟨l⟩
theorem run_results (hA : APOk P A) {f : Func} {tr : Array Value} {vs' : List Value} (h3 : (f.results.toList.mapM (m := Sem) fun | .tmp t => pure (tr.getD t Go.undef) | .cell a t => do loadVar t (← asAddr (tr.getD a Go.undef))).run P w = .ok vs' w) :
    (results f tr).run P w = .ok (oneOr vs') w := by
  unfold results
  rw [Sem.run_bind, Array.mapM_eq_mapM_toList, Sem.run_map]
  have : ∀ (x y : Sem (List Value)), x = y → x.run P w = .ok vs' w → y.run P w = .ok vs' w := fun x y h1 h2 => h1 ▸ h2
  rw [this _ _ ?_ h3]
  · simp only [Result.andThen_ok]
    match vs' with
    | [] => rfl
    | [v] => rfl
    | v :: u :: l => rfl
  · congr 1

theorem g_unwind_ret (hA : APOk P A)
    (s : St P A B w0 f0 ρ ⟨fn, tm, nt, todo, [], .returning, kd, ro⟩ fcs h n rf rcs w g G) :
    Goal P A B w0 f0 cs rf rcs w (goUnwind .returning A fn tm nt todo [] kd ro fcs h n) := by
  unfold goUnwind
  simp only
  cases hdraw : isDraw todo with
  | true => exact Goal.fail
  | false =>
    rw [cond_false]
    split
    · rename_i f hf
      have hP := hA.funcs _ _ hf
      have hm := s.fr.mode
      simp only at hm
      generalize hq : rf.mode = q at hm
      cases hm
      have hds := s.fr.ds
      simp only at hds
      generalize hqd : rf.defers = rds at hds
      cases hds
      have hb := s.fr.body
      simp only at hb
      obtain ⟨rfl, ht⟩ := body_plain hb hdraw
      have hfn : rf.fn = fn := s.fr.fn
      show Goal P A B w0 f0 cs rf rcs w (resultsA A f.results.toList tm h (fun l => match l with | [v] => leaveA kd fcs h n v | l => leaveA kd fcs h n (.tuple ⟨l⟩)))
      rcases results_rel hA s.hw ht f.results.toList (fun l => match l with | [v] => leaveA kd fcs h n v | l => leaveA kd fcs h n (.tuple ⟨l⟩)) with ⟨why, h1⟩ | ⟨vs, vs', h1, h2, h3⟩
      · rw [h1]; exact Goal.fail
      · rw [h1]
        have hres := run_results (f := f) (tr := rf.tmps) hA h3
        have key : ∀ {v v' : Value}, VR ρ v v' → (results f rf.tmps).run P w = .ok v' w → Goal P A B w0 f0 cs rf rcs w (leaveA kd fcs h n v) := by
          intro v v' hv hr
          unfold leaveA
          split
          · split
            · have hcs := s.cs
              cases hcs with
              | nil =>
                have hbot := s.bot
                refine ⟨v', rf, w, ρ, Steps.refl P _, hbot, ⟨hq, hqd, s.fr.kind, f, by rw [hfn]; exact hP, hr⟩, hv, s.hw⟩
            · exact Goal.fail
          · rename_i c rest
            refine leaveUp_sound s.hw s.fr.kind s.cs s.g s.gl s.bot hv (rf0 := rf) (w1 := w) ?_
            simp [stepG, unwind, hq, hqd, hfn, hP, hr]
        have hlen := h2.1
        match vs, vs', h2, hres with
        | [v], [v'], h2, hres =>
          obtain ⟨y, ys, hy, k1, _⟩ := VRs.of_cons h2
          simp only [List.cons.injEq] at hy
          obtain ⟨rfl, rfl⟩ := hy
          exact key k1 hres
        | [], vs', h2, hres =>
          have := VRs.of_nil h2
          subst this
          exact key (VRs.toTuple VRs.nil) hres
        | v :: u :: l, vs', h2, hres =>
          have h4 := h2
          obtain ⟨y, ys, rfl, k1, k2⟩ := VRs.of_cons h2
          obtain ⟨y2, ys2, rfl, k3, k4⟩ := VRs.of_cons k2
          exact key (VRs.toTuple h4) hres
        | [v], [], h2, hres => exact absurd h2.1 (by simp)
        | [v], v' :: u' :: l', h2, hres => exact absurd h2.1 (by simp)
    · exact Goal.fail

/-- a step in a frame that is left -/
theorem g_unwind (hA : APOk P A) (hS : SumsOk P A) (hmd : md ≠ .run)
    (s : St P A B w0 f0 ρ ⟨fn, tm, nt, todo, ds, md, kd, ro⟩ fcs h n rf rcs w g G) :
    Goal P A B w0 f0 cs rf rcs w (goUnwind md A fn tm nt todo ds kd ro fcs h n) := by
  cases ds with
  | cons d ds => exact g_unwind_deferred hA hS hmd s
  | nil =>
    cases md with
    | run => exact absurd rfl hmd
    | panicking ch => exact g_unwind_panic hA s
    | returning => exact g_unwind_ret hA s

/-- one step -/
theorem stepA_sound (hA : APOk P A) (hS : SumsOk P A) {m : Mach} (hm : MR P A B w0 f0 m rf rcs w) : Goal P A B w0 f0 cs rf rcs w (stepA A m) := by
  obtain ⟨⟨fn, tm, nt, todo, ds, md, kd, ro⟩, fcs, h, n⟩ := m
  obtain ⟨⟨ρ, g, G, hw, hfr, hcs, hg, hgl⟩, hbot⟩ := hm
  have s : St P A B w0 f0 ρ ⟨fn, tm, nt, todo, ds, md, kd, ro⟩ fcs h n rf rcs w g G := ⟨hw, hfr, hcs, hg, hgl, hbot⟩
  have hE : ExecOk P A := execOk hA hS
  have hF : FloatOk A := floatOk
  have hL : AllocOk P A := allocOk hA
  have hAl : AllocA A := allocA
  cases md with
  | returning => exact g_unwind hA hS (by simp) s
  | panicking ch => exact g_unwind hA hS (by simp) s
  | run =>
    show Goal P A B w0 f0 cs rf rcs w (goRun todo A fn tm nt ds kd ro fcs h n)
    cases todo with
    | nil => exact g_nil s
    | cons it k =>
      cases it with
      | code c =>
        cases c with
        | ret => exact g_ret s
        | skip => exact g_skip (.inl rfl) s
        | label l => exact g_skip (.inr (.inl ⟨l, rfl⟩)) s
        | seq a b => exact g_seq s
        | cond c a b => exact g_cond s
        | block id b => exact g_block s
        | loop b => exact g_loop (.inl rfl) s
        | exit id => exact g_exit s
        | region id ops draw =>
          cases draw with
          | true => exact g_draw s
          | false => exact g_region s
        | rangeFunc f ps asg body => exact g_rangeFunc hA hS s
        | _ => exact Goal.fail
      | inBlock id => exact g_skip (.inr (.inr (.inl ⟨id, rfl⟩))) s
      | inLoop b => exact g_loop (.inr rfl) s
      | inRegion ops l =>
        cases l with
        | nil => exact g_skip (.inr (.inr (.inr ⟨ops, rfl⟩))) s
        | cons o rest =>
          obtain ⟨dst, op, ty, pos, after, gd⟩ := o
          exact g_oper hA hE s
      | inDraw ops pend l =>
        cases l with
        | nil => exact g_drawEnd hE hF hL s
        | cons i rest =>
          show Goal P A B w0 f0 cs rf rcs w (gDrawn ops pend i rest A fn tm nt k ds kd ro fcs h n)
          unfold gDrawn
          split
          · rename_i dst op ty pos after gd ho
            rw [lnth_eq] at ho
            split
            · rename_i fk hfk
              exact g_float hF hAl ho hfk s
            · exact g_seqd hA hE hF hL ho s
          · exact Goal.fail
      | inRangeFunc l => exact Goal.fail
      | endRangeFunc l => exact g_endRange s
      | beginRound => exact g_begin s
end
end Go.Am
end
section
set_option linter.unusedVariables false
namespace Go.Am
open Go Go.RowKit

section
variable {P : Program} {A : AP} {n B : Nat} {w0 w : World} {f0 : FuncId} {cs : List Frame}

/-- so many steps -/
theorem runA_sound (hA : APOk P A) (hS : SumsOk P A) : ∀ (f : Nat) {m : Mach} {rf : Frame} {rcs : List Frame} {w : World}, MR P A B w0 f0 m rf rcs w → Goal P A B w0 f0 cs rf rcs w (runA A f m)
  | 0, m, rf, rcs, w, hm => ⟨rf, rcs, w, Steps.refl P _, hm⟩
  | f + 1, m, rf, rcs, w, hm => by
    show Goal P A B w0 f0 cs rf rcs w (match stepA A m with | .next m' => runA A f m' | r => r)
    have h1 := stepA_sound (cs := cs) hA hS hm
    split
    · rename_i m' hs
      rw [hs] at h1
      obtain ⟨rf', rcs', w', g1, g2⟩ := h1
      exact Goal.steps g1 (runA_sound hA hS f g2)
    · exact h1

/-- the heap ahead: no block of AM's own, the program's variables below -/
def rho0 : Rho := fun b => if b < GN then some ⟨b, 0, 0⟩ else none
def noneH (h : T Ob) : Prop := ∀ b, h.get b = none

theorem WR.start {P : Program} {h : T Ob} (hh : noneH h) (w : World) : WR P rho0 h GN w.heap.size w w where
  live := fun b ob hb => by rw [hh b] at hb; simp at hb
  fresh := fun b hb => ⟨by simp [rho0, Nat.not_lt.2 hb], hh b⟩
  rng := fun b e ob _ hb => by rw [hh b] at hb; simp at hb
  inj := fun b1 b2 o1 o2 e1 e2 hb => by rw [hh b1] at hb; simp at hb
  below := Below.refl _ _
  base := Nat.le_refl _

/-- THE RUN: what AM comes to, the program comes to in every world -/
theorem calls_of_run (hA : APOk P A) (hS : SumsOk P A) {f : FuncId} {as : List Value} {bs : Array Value} (hv : VRs rho0 as bs.toList) {h : T Ob} (hh : noneH h) {fuel : Nat} {v : Value} {h' : T Ob} {n' : Nat}
    (hrun : startA A f as h GN fuel = .done v h' n') (w : World) :
    Calls P f bs w fun e w' => ∃ v' ρ, e = .returned v' ∧ VR ρ v v' ∧ Below w.heap.size w w' := by
  intro cs
  unfold startA at hrun
  rcases enter_rel (P := P) (ρ := rho0) hA hv (kd := .normal) (fun g => runA A fuel ⟨g, [], h, GN⟩) with ⟨why, h1⟩ | ⟨fr', h1, h2⟩
  · rw [h1] at hrun; simp at hrun
  · rw [h1] at hrun
    have hm : MR P A w.heap.size w f ⟨fr', [], h, GN⟩ (Frame.enter P f bs .normal) [] w :=
      ⟨⟨rho0, [], [], WR.start hh w, h2, .nil, ⟨List.nodup_nil, by simp⟩, fun g hg => by simp [rho0, hg]⟩, rfl⟩
    have hg := runA_sound (cs := cs) hA hS fuel hm
    rw [hrun] at hg
    obtain ⟨v', rf', w', ρ, g1, g2, g3, g4, g5⟩ := hg
    exact ⟨.returned v', w', rf', ⟨v', ρ, rfl, g4, g5.below⟩, g1, g2, g3⟩

/-- .. a value that holds no address -/
theorem calls_of_run_plain (hA : APOk P A) (hS : SumsOk P A) {f : FuncId} {as : List Value} {bs : Array Value} (hv : VRs rho0 as bs.toList) {h : T Ob} (hh : noneH h) {fuel : Nat} {v : Value} {h' : T Ob} {n' : Nat}
    (hrun : startA A f as h GN fuel = .done v h' n') (hself : ∀ ρ v', VR ρ v v' → v' = v) (w : World) :
    Calls P f bs w fun e w' => e = .returned v ∧ Below w.heap.size w w' := by
  intro cs
  obtain ⟨e, w', fr, ⟨v', ρ, rfl, h1, h2⟩, h3⟩ := calls_of_run hA hS hv hh hrun w cs
  exact ⟨_, w', fr, ⟨by rw [hself ρ v' h1], h2⟩, h3⟩

/-- a known call, out of a run without known calls -/
theorem known_of_run {A0 : AP} (hA : APOk P A0) (hS : SumsOk P A0) {f : FuncId} {as : List Value} (hv : VRs rho0 as as) {h : T Ob} (hh : noneH h) {fuel : Nat} {v : Value} {h' : T Ob} {n' : Nat}
    (hrun : startA A0 f as h GN fuel = .done v h' n') (hself : ∀ ρ v', VR ρ v v' → v' = v) (hplain : plainV v = true) : KnownOk P f ⟨as⟩ v := by
  intro w cs
  obtain ⟨e, w', fr, ⟨h1, h2⟩, h3⟩ := calls_of_run_plain hA hS (bs := ⟨as⟩) hv hh hrun hself w cs
  exact ⟨e, w', fr, ⟨v, h1, fun ρ => VR.plainV hplain, h2⟩, h3⟩

theorem sums_nil {A : AP} (h : A.sums = []) : SumsOk P A := by
  intro f as v hm; rw [h] at hm; simp at hm
end
end Go.Am
end
section
set_option linter.unusedVariables false
namespace Go.Am
open Go Go.RowKit

/-- a tree out of what stands at its places -/
def mkT {α : Type} (g : Nat → Option α) (n : Nat) : Nat → Nat → Nat → T α
  | 0, _, _ => .leaf
  | d + 1, a, b => cond (Nat.blt b n) (.node (mkT g n d (Nat.mul 2 a) (Nat.add a b)) (g b) (mkT g n d (Nat.mul 2 a) (Nat.add (Nat.mul 2 a) b))) .leaf

theorem mkT_get {α : Type} (g : Nat → Option α) (n : Nat) : ∀ (d a b k : Nat) (x : α), (mkT g n d a b).get k = some x → g (a * k + b) = some x
  | 0, a, b, k, x, h => by simp [mkT] at h
  | d + 1, a, b, k, x, h => by
    unfold mkT at h
    cases hb : Nat.blt b n with
    | false => rw [hb] at h; simp at h
    | true =>
      rw [hb, cond_true] at h
      cases k with
      | zero => simpa using h
      | succ m =>
        rw [T.get_node_succ] at h
        split at h
        · rename_i hm
          have := mkT_get g n d _ _ _ x h
          rw [natMul, natAdd] at this
          have e : 2 * a * (m / 2) + (a + b) = a * (m + 1) + b := by
            have h2 : m = 2 * (m / 2) := by omega
            generalize m / 2 = q at h2 ⊢
            subst h2
            rw [Nat.mul_add, Nat.mul_one, Nat.mul_comm 2 a, Nat.mul_assoc]
            omega
          rw [e] at this; exact this
        · rename_i hm
          have := mkT_get g n d _ _ _ x h
          rw [natMul, natAdd] at this
          have e : 2 * a * (m / 2) + (2 * a + b) = a * (m + 1) + b := by
            have h2 : m = 2 * (m / 2) + 1 := by omega
            generalize m / 2 = q at h2 ⊢
            subst h2
            rw [Nat.mul_add, Nat.mul_add, Nat.mul_one, Nat.mul_comm 2 a, Nat.mul_assoc]
            omega
          rw [e] at this; exact this

def zeroOk (t : TypeInfo) : Bool := match t.zero with
  | some z => plainV z
  | none => true
def funcOk (f : Func) : Bool := match f.body with
  | some c => codeOk c && !(f.name == "runtime.NumGoroutine")
  | none => !(isExt f.name) || (f.origin == "" || f.origin == f.name)
def plainFields (P : Program) (t : TypeId) : Bool := !(P.stoodInHeld t) && match P.underlying t with
  | some (.struct fs) => fs.toList.all fun f => !(f.name == "_") && match P.underlying f.type with | some (.int _) => true | _ => false
  | _ => true

theorem apOk {P : Program} {A : AP} {d1 n1 d2 n2 : Nat} (h1 : A.funcs = mkT (fun i => P.funcs.toList[i]?) n1 d1 1 0) (h2 : A.types = mkT (fun i => P.types.toList[i]?) n2 d2 1 0)
    (h3 : (A.plain.all (plainFields P)) = true) (h4 : (P.types.toList.all zeroOk) = true) (h5 : (P.funcs.toList.all funcOk) = true) : APOk P A := by
  have hf : ∀ i f, A.funcs.get i = some f → P.funcs.toList[i]? = some f := by
    intro i f hh
    rw [h1] at hh
    have := mkT_get _ _ _ _ _ _ _ hh
    simpa using this
  have ht : ∀ i t, A.types.get i = some t → P.types.toList[i]? = some t := by
    intro i t hh
    rw [h2] at hh
    have := mkT_get _ _ _ _ _ _ _ hh
    simpa using this
  have hfo : ∀ i f, A.funcs.get i = some f → funcOk f = true := by
    intro i f hh
    exact List.all_eq_true.1 h5 f (List.mem_of_getElem? (hf i f hh))
  refine ⟨fun i f hh => by simpa using hf i f hh, fun i t hh => ?_, ?_, ?_, ?_, ?_⟩
  · have := ht i t hh
    have h6 : P.types[i]? = some t := by simpa using this
    have h7 : i < P.types.size := by
      rcases Nat.lt_or_ge i P.types.size with h8 | h8
      · exact h8
      · rw [Array.getElem?_eq_none h8] at h6; simp at h6
    unfold Tables.info?
    rw [if_pos h7]; exact h6
  · intro t hn
    have hm : t ∈ A.plain := by
      have : ∀ l : List Nat, natIn t l = true → t ∈ l := by
        intro l
        induction l with
        | nil => intro h; simp [natIn] at h
        | cons x xs ih =>
          intro h
          simp only [natIn, natBeq, Bool.cond_decide] at h
          split at h
          · rename_i he; simp [he]
          · exact List.mem_cons_of_mem _ (ih h)
      exact this _ hn
    have hp := List.all_eq_true.1 h3 t hm
    unfold plainFields at hp
    rw [Bool.and_eq_true] at hp
    refine ⟨by simpa using hp.1, fun fs hu f hfm => ?_⟩
    have hp2 := hp.2
    rw [hu] at hp2
    have := List.all_eq_true.1 hp2 f hfm
    rw [Bool.and_eq_true] at this
    refine ⟨by simpa using this.1, ?_⟩
    have h6 := this.2
    split at h6
    · rename_i k hk; exact ⟨k, hk⟩
    · simp at h6
  · intro i t z hh hz
    have := List.all_eq_true.1 h4 t (List.mem_of_getElem? (ht i t hh))
    unfold zeroOk at this
    rw [hz] at this
    exact this
  · intro i f hh hb hx
    have := hfo i f hh
    unfold funcOk at this
    rw [hb] at this
    simp only [hx, Bool.not_true, Bool.false_or, Bool.or_eq_true, beq_iff_eq] at this
    exact this
  · intro i f c hh hb
    have := hfo i f hh
    unfold funcOk at this
    rw [hb] at this
    simp only [Bool.and_eq_true] at this
    exact ⟨this.1, by simpa using this.2⟩

/-- what a run ends with -/
def outV : R → Option Value
  | .done v _ _ => some v
  | _ => none
theorem outV_done {r : R} {v : Value} (h : outV r = some v) : ∃ h' n', r = .done v h' n' := by
  unfold outV at h
  split at h
  · rename_i v' h' n'
    simp only [Option.some.injEq] at h
    subst h
    exact ⟨h', n', rfl⟩
  · simp at h

/-- values that hold no address are told from themselves alone -/
theorem plainC_self {ρ : Rho} {v v' : Value} (hp : plainC v = true) (h : VR ρ v v') : v' = v := by
  cases h <;> first | rfl | simp [plainC] at hp
theorem plainA_self {ρ : Rho} {v v' : Value} (hp : plainA v = true) (h : VR ρ v v') : v' = v := by
  cases h with
  | @agg as bs hs hc =>
    simp only [plainA, List.all_eq_true] at hp
    congr 1
    apply Array.ext
    · exact hs.symm
    · intro i h1 h2
      have := hc i as[i] bs[i] (by simp [h2]) (by simp [h1])
      exact plainC_self (hp _ (by simp)) this
  | tuple => simp [plainA, plainC] at hp
  | _ => first | rfl | simp [plainA, plainC] at hp
theorem plainV_self {ρ : Rho} {v v' : Value} (hp : plainV v = true) (h : VR ρ v v') : v' = v := by
  cases h with
  | @tuple as bs hs hc =>
    simp only [plainV, List.all_eq_true] at hp
    congr 1
    apply Array.ext
    · exact hs.symm
    · intro i h1 h2
      have := hc i as[i] bs[i] (by simp [h2]) (by simp [h1])
      exact plainA_self (hp _ (by simp)) this
  | @agg as bs hs hc => exact plainA_self (v := .agg as) hp (.agg hs hc)
  | _ => first | rfl | simp [plainV, plainA, plainC] at hp

theorem noneH_e11 : noneH (T.e11 : T Ob) := by
  have h9 : noneT (T.e9 : T Ob) := noneT_e9
  exact noneT_node (noneT_node h9 h9) (noneT_node h9 h9)

/-- a run to a value that holds no address: the program's call -/
theorem calls_plain {P : Program} {A : AP} (hA : APOk P A) (hS : SumsOk P A) {f : FuncId} {as : List Value} (hv : VRs rho0 as as) {fuel : Nat} {v : Value} (hp : plainV v = true)
    (hrun : outV (startA A f as T.e11 GN fuel) = some v) (w : World) : Calls P f ⟨as⟩ w fun e w' => e = .returned v ∧ Below w.heap.size w w' := by
  obtain ⟨h', n', hr⟩ := outV_done hrun
  exact calls_of_run_plain hA hS (bs := ⟨as⟩) hv noneH_e11 hr (fun ρ v' h => plainV_self hp h) w

theorem known_plain {P : Program} {A0 : AP} (hA : APOk P A0) (hS : SumsOk P A0) {f : FuncId} {as : List Value} (hv : VRs rho0 as as) {fuel : Nat} {v : Value} (hp : plainV v = true)
    (hrun : outV (startA A0 f as T.e11 GN fuel) = some v) : KnownOk P f ⟨as⟩ v := by
  obtain ⟨h', n', hr⟩ := outV_done hrun
  exact known_of_run hA hS hv noneH_e11 hr (fun ρ v' h => plainV_self hp h) hp
end Go.Am
end
