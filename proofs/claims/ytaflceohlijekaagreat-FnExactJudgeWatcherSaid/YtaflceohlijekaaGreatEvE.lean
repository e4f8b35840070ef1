/- A part of the proof that for every match and every number, the program's JudgeWatcher answers as the specification's JudgeWatcher does, and leaves its arguments as they were; there is no condition. -/
import Derived.Test.YtaflceohlijekaaGreatEvD
import Derived.Orders
import Derived.ChangeArms
import Derived.ChangeShapes
import Derived.WideShapes
import Derived.Below
set_option linter.unusedVariables false
set_option linter.unusedSimpArgs false
namespace Go.Proofs.YtaflceohlijekaaGreat.Ev
theorem wp_loop_n {P : Program} {Q : Exit -> Act -> World -> Prop} {c : Code} (J : Nat -> Act -> World -> Prop)
    (round : ∀ n a w, J n a w -> c.wp P (Exit.then (fun a' w' => ∃ m, m < n /\ J m a' w') Q) a w) {n : Nat} {a : Act} {w : World} (h₀ : J n a w) : (Code.loop c).wp P Q a w := by
  classical
  have least : ∀ (n : Nat) (a : Act) (w : World), J n a w -> ∃ m, J m a w /\ ∀ m', J m' a w -> m <= m' := by
    intro n
    induction n using Nat.strongRecOn with
    | _ n ih =>
      intro a w h
      by_cases hx : ∃ m, m < n /\ J m a w
      · obtain ⟨m, h1, h2⟩ := hx
        exact ih m h1 a w h2
      · refine ⟨n, h, fun m' h' => ?_⟩
        rcases Nat.lt_or_ge m' n with q | q
        · exact absurd ⟨m', q, h'⟩ hx
        · exact q
  let μ : Act -> World -> Nat := fun a w => if h : ∃ m, J m a w /\ ∀ m', J m' a w -> m <= m' then Classical.choose h else 0
  have hμ : ∀ n a w, J n a w -> J (μ a w) a w /\ μ a w <= n := by
    intro n a w h
    have hx := least n a w h
    have : μ a w = Classical.choose hx := by simp only [μ, hx, dite_true]
    rw [this]
    exact ⟨(Classical.choose_spec hx).1, (Classical.choose_spec hx).2 n h⟩
  refine wp_loop (fun a w => ∃ n, J n a w) μ ⟨n, h₀⟩ fun a w ⟨n, hn⟩ => ?_
  refine wp_mono (round _ a w (hμ n a w hn).1) fun e a' w' he => ?_
  cases e with
  | normal =>
    obtain ⟨m, h1, h2⟩ := he
    exact ⟨⟨m, h2⟩, Nat.lt_of_le_of_lt (hμ m a' w' h2).2 h1⟩
  | _ => exact he
def codeOk (P : Program) (E : Env) (tk : Nat -> Bool) (np : Nat -> Bool) (n : Nat) : Code -> Bool
  | .region _ ops _ => opsOk P E tk np n ops.toList
  | .seq a b => codeOk P E tk np n a && codeOk P E tk np n b
  | .cond _ a b => codeOk P E tk np n a && codeOk P E tk np n b
  | .block _ b => codeOk P E tk np n b
  | .loop b => codeOk P E tk np n b
  | _ => true
structure Rest (P : Program) (E : Env) (tk : Nat -> Bool) (np : Nat -> Bool) (c : Cx) : Prop where
  draw : ∀ {R : Type} {call : E.Call} (hspec : ∀ f x r, call f x = some r -> FnSpec P E f x r) (ops : Array Oper) (id : Nat) (st : St) (G : Gh) (w : World) (a : Act) (k : St -> Option R) (r : R) (Q : Exit -> Act -> World -> Prop), opsOk P E tk np a.tmps.size ops.toList = true -> Rel c st G w (tmOf a) ->
    evRegD E call ops st k = some r -> Then c a (Q .normal) k r -> (Code.region id ops true).wp P Q a w
  canon : ∀ live st G w tm, Rel c st G w tm -> ∃ G', Rel c (canon live st) G' w tm
section
variable {P : Program} {E : Env} {tk : Nat -> Bool} {c : Cx} {st : St} {G G' : Gh} {w w' : World} {a : Act}
variable {R : Type} {call : E.Call}
theorem evC_sound (htk : ∀ t, tk t = true -> TyOk P E t) (hspec : ∀ f x r, call f x = some r -> FnSpec P E f x r) {np : Nat -> Bool} (hnp : ∀ d, np d = false -> c.pin d = none) (hrest : Rest P E tk np c) (sk : Nat -> Sk) (fin : St -> Option R) (r : R) (D : List Deferred) (N : Nat) : ∀ (code : Code) (cur : Nat) (Q : Exit -> Act -> World -> Prop) (k : St -> Option R) (ke : Nat -> St -> Option R) (st : St) (G : Gh) (w : World) (a : Act), codeOk P E tk np N code = true ->
    a.defers = D -> a.tmps.size = N -> Rel c st G w (tmOf a) -> evC E call sk fin code cur st k ke = some r ->
    (∀ st' G' a' w', k st' = some r -> Rel c st' G' w' (tmOf a') -> a'.defers = D -> a'.tmps.size = N -> Q .normal a' w') ->
    (∀ i st' G' a' w', ke i st' = some r -> Rel c st' G' w' (tmOf a') -> a'.defers = D -> a'.tmps.size = N -> Q (.exit i) a' w') ->
    (∀ st' G' a' w', fin st' = some r -> Rel c st' G' w' (tmOf a') -> a'.defers = D -> a'.tmps.size = N -> Q .ret a' w') -> code.wp P Q a w := by
  intro code
  induction code with
  | skip =>
    intro cur Q k ke st G w a hok hd hs h he hk hke hf
    exact wp_skip (hk st G a w he h hd hs)
  | region id ops draw =>
    intro cur Q k ke st G w a hok hd hs h he hk hke hf
    simp only [evC] at he
    have hthen : Then c a (Q .normal) k r := fun st' G' a' w' h1 h2 h3 h4 => hk st' G' a' w' h1 h2 (h3.trans hd) (h4.trans hs)
    have hok2 : opsOk P E tk np a.tmps.size ops.toList = true := by rw [hs]; exact hok
    cases draw with
    | false =>
      have := evReg_sound (P := P) (id := id) (Q := Q) htk hspec hnp hok2 h he hthen
      simpa using this
    | true => exact hrest.draw hspec ops id st G w a k r Q hok2 h he hthen
  | seq x y ihx ihy =>
    intro cur Q k ke st G w a hok hd hs h he hk hke hf
    simp only [codeOk, Bool.and_eq_true] at hok
    simp only [evC] at he
    refine wp_seq ?_
    refine ihx cur _ _ ke st G w a hok.1 hd hs h he (fun st' G' a' w' h1 h2 h3 h4 => ?_) hke hf
    exact ihy cur Q k ke st' G' w' a' hok.2 h3 h4 h2 h1 hk hke hf
  | cond x y z ihy ihz =>
    intro cur Q k ke st G w a hok hd hs h he hk hke hf
    simp only [codeOk, Bool.and_eq_true] at hok
    simp only [evC] at he
    split at he
    · rename_i g hx
      have hv := v_bool (operand_rel h hx)
      refine wp_cond hv ?_
      cases g with
      | true => exact ihy cur Q k ke st G w a hok.1 hd hs h he hk hke hf
      | false => exact ihz cur Q k ke st G w a hok.2 hd hs h he hk hke hf
    · cases he
  | block id b ih =>
    intro cur Q k ke st G w a hok hd hs h he hk hke hf
    simp only [evC] at he
    refine wp_block ?_
    cases hl : isLoop b with
    | true =>
      rw [hl] at he
      simp only [cond_true] at he
      refine ih id _ k _ st G w a hok hd hs h he (fun st' G' a' w' h1 h2 h3 h4 => hk st' G' a' w' h1 h2 h3 h4) (fun i st' G' a' w' h1 h2 h3 h4 => ?_) (fun st' G' a' w' h1 h2 h3 h4 => hf st' G' a' w' h1 h2 h3 h4)
      cases hb : Nat.beq i id with
      | true =>
        rw [hb] at h1
        have := beq_of hb
        subst this
        simp only [cond_true] at h1
        obtain ⟨x, hx, h1⟩ := via_some h1
        obtain ⟨G2, h2'⟩ := hrest.canon ((sk (1000000 + i)).sl.map (·.1)) st' G' w' _ h2
        rw [<- grab_fill hx] at h2'
        simp only [Exit.inBlock, if_true]
        exact hk _ G2 a' w' h1 h2' h3 h4
      | false =>
        rw [hb] at h1
        cases h1
    | false =>
      rw [hl] at he
      simp only [cond_false] at he
      refine ih id _ k _ st G w a hok hd hs h he (fun st' G' a' w' h1 h2 h3 h4 => hk st' G' a' w' h1 h2 h3 h4) (fun i st' G' a' w' h1 h2 h3 h4 => ?_) (fun st' G' a' w' h1 h2 h3 h4 => hf st' G' a' w' h1 h2 h3 h4)
      cases hb : Nat.beq i id with
      | true =>
        rw [hb] at h1
        have := beq_of hb
        subst this
        simp only [Exit.inBlock, if_true]
        exact hk st' G' a' w' h1 h2 h3 h4
      | false =>
        rw [hb] at h1
        have hne : i ≠ id := by
          intro e
          subst e
          rw [Nat.beq_refl] at hb
          cases hb
        simp only [Exit.inBlock, hne, if_false]
        exact hke i st' G' a' w' h1 h2 h3 h4
  | loop b ih =>
    intro cur Q k ke st G w a hok hd hs h he hk hke hf
    simp only [evC] at he
    obtain ⟨x, hx, he⟩ := via_some he
    obtain ⟨G1, h1⟩ := hrest.canon ((sk cur).sl.map (·.1)) st G w _ h
    rw [<- grab_fill hx] at h1
    obtain ⟨m0, he⟩ := loopW_runs he
    refine wp_loop_n (fun m a w => ∃ v G, Rel c (fill (sk cur) v) G w (tmOf a) /\ a.defers = D /\ a.tmps.size = N /\ loopT (fun v again => evC E call sk fin b cur (fill (sk cur) v) (fun st' => via (sk cur) st' again) ke) m v = some r) ?_ ⟨x, G1, h1, hd, hs, he⟩
    rintro m a w ⟨v, G2, h2, hd2, hs2, he2⟩
    cases m with
    | zero => cases he2
    | succ m =>
      simp only [loopT] at he2
      refine ih cur _ _ ke _ G2 w a hok hd2 hs2 h2 he2 (fun st' G' a' w' e1 e2 e3 e4 => ?_) hke hf
      obtain ⟨x, hx, e1⟩ := via_some e1
      obtain ⟨G3, h3⟩ := hrest.canon ((sk cur).sl.map (·.1)) st' G' w' _ e2
      rw [<- grab_fill hx] at h3
      exact ⟨m, Nat.lt_succ_self m, x, G3, h3, e3, e4, e1⟩
  | exit id =>
    intro cur Q k ke st G w a hok hd hs h he hk hke hf
    exact wp_exit (hke id st G a w he h hd hs)
  | ret =>
    intro cur Q k ke st G w a hok hd hs h he hk hke hf
    exact wp_ret (hf st G a w he h hd hs)
  | _ =>
    intro cur Q k ke st G w a hok hd hs h he hk hke hf
    simp [evC] at he
end
end Go.Proofs.YtaflceohlijekaaGreat.Ev
namespace Go.Proofs.YtaflceohlijekaaGreat.Ev
section
variable {P : Program} {E : Env} {tk : Nat -> Bool} {c : Cx} {st : St} {G G' : Gh} {w w' : World} {a : Act}
def resVal (a : Act) : ResultVar -> Sem Value
  | .tmp t => pure (a.tmps.getD t undef)
  | .cell x t => do loadVar t (<- asAddr (a.tmps.getD x undef))
theorem res_one (htk : ∀ t, tk t = true -> TyOk P E t) (h : Rel c st G w (tmOf a)) : ∀ (rs : List (Bool × Sh)) (rv : List ResultVar) (ls : List Lf), (∀ v ∈ rv, match v with | .cell _ t => tk t = true | .tmp _ => True) -> resLeaves E st rs rv = some ls ->
    ∃ q rc, (rv.mapM (resVal a)).run P w = .ok q w /\ TupCells rs q rc /\ LsRel c st.us G w ls rc /\ q.length = rs.length /\ rc.length = nRes rs
  | [], [], ls, _, he => by
    simp only [resLeaves, Option.some.injEq] at he
    subst he
    exact ⟨[], [], by simp, ⟨rfl, rfl⟩, trivial, rfl, rfl⟩
  | (g, s) :: rs, .tmp t :: r, ls, hc, he => by
    simp only [resLeaves] at he
    split at he
    · rename_i g' l1 l2 h1 h2
      split at he
      · rename_i hcond
        obtain ⟨rfl, hl⟩ := hcond
        cases he
        obtain ⟨q, rc, q1, q2, q3, q4, q5⟩ := res_one htk h rs r l2 (fun v hv => hc v (List.mem_cons_of_mem _ hv)) h2
        have hv : VLs c st.us G w g l1 (tmOf a t) := h.slot t _ h1
        obtain ⟨c1, hone, hls⟩ : ∃ c1, OneCells g (tmOf a t) c1 /\ LsRel c st.us G w l1 c1 := by
          cases g with
          | true => obtain ⟨c1, e1, e2⟩ := hv; exact ⟨c1, e1, e2⟩
          | false => exact ⟨_, rfl, hv⟩
        have hc1 : c1.length = s.n := by rw [hls.length, hl]
        refine ⟨tmOf a t :: q, c1 ++ rc, ?_, ⟨_, q, c1, rc, rfl, rfl, hc1, hone, q2⟩, LsRel.append hls q3, by simp [q4], by simp [hc1, q5, nRes]⟩
        simp only [List.mapM_cons, Sem.run_bind, resVal, Sem.run_pure, Result.andThen_ok, q1]
        rfl
      · cases he
    · cases he
  | (g, s) :: rs, .cell x ty :: r, ls, hc, he => by
    simp only [resLeaves] at he
    split at he
    · rename_i p l2 h1 h2
      split at he
      · rename_i l1 hread
        split at he
        · rename_i hcond
          obtain ⟨rfl, hsn⟩ := hcond
          cases he
          have ht := htk ty (hc _ (List.mem_cons_self))
          obtain ⟨q, rc, q1, q2, q3, q4, q5⟩ := res_one htk h rs r l2 (fun v hv => hc v (List.mem_cons_of_mem _ hv)) h2
          obtain ⟨b, o, cs, e1, e2, e3, e4⟩ := h.readP (show PtrRel c st.us st.vs G w p (tmOf a x) from h.slot x _ h1) hread
          have hrun := run_loadAt (P := P) (w := w) ht e3 e4
          have hrun2 : (loadVar ty ⟨b, o, none⟩).run P w = .ok (if (E.ty ty).agg then .agg cs.toArray else cs.headD undef) w := by
            simpa [Instr.loadAt, Instr.sureAddr] using hrun
          have hone : OneCells (E.ty ty).agg (if (E.ty ty).agg then .agg cs.toArray else cs.headD undef) cs := by
            cases ha : (E.ty ty).agg with
            | true => simp [OneCells]
            | false =>
              have hn := n_one ht ha
              match cs, e3 with
              | [v], _ => simp [OneCells]
              | [], e3 => simp at e3; omega
              | _ :: _ :: _, e3 => simp at e3; omega
          have e1' : a.tmps.getD x undef = .pointer (some ⟨b, o, none⟩) := e1
          refine ⟨_ :: q, cs ++ rc, ?_, ⟨_, q, cs, rc, rfl, rfl, by rw [e3, hsn], hone, q2⟩, LsRel.append e2 q3, by simp [q4], by simp [e3, hsn, q5, nRes]⟩
          simp only [List.mapM_cons, Sem.run_bind, resVal, e1', asAddr, Sem.run_pure, Result.andThen_ok, hrun2, q1]
        · cases he
      · cases he
    · cases he
  | [], _ :: _, ls, _, he => by simp [resLeaves] at he
  | _ :: _, [], ls, _, he => by simp [resLeaves] at he
theorem out_ok (h : Rel c st G w (tmOf a)) : ∀ (ps : List Par) (j : Nat) (vs : List Value) (ls : List Lf), outLeaves st ps j = some ls -> vs.length = ps.length -> (∀ i v p, vs[i]? = some v -> ps[i]? = some p -> p.isMut = true -> tmOf a (j + i) = v) -> ∃ oc, LsRel c st.us G w ls oc /\ OutRel w ps vs oc
  | [], j, vs, ls, he, hl, hv => by
    simp only [outLeaves, Option.some.injEq] at he
    subst he
    exact ⟨[], trivial, rfl⟩
  | p :: ps, j, [], ls, he, hl, hv => by simp at hl
  | p :: ps, j, v :: vs, ls, he, hl, hv => by
    have hv0 : p.isMut = true -> tmOf a j = v := fun hm => by simpa using hv 0 v p rfl rfl hm
    have ih := fun l hl2 => out_ok h ps (j + 1) vs l hl2 (by simpa using hl) (fun i u q hi hq hm => by
      have := hv (i + 1) u q (by simpa using hi) (by simpa using hq) hm
      rwa [show j + (i + 1) = j + 1 + i by omega] at this)
    cases p with
    | val g s => exact ih ls he
    | ro s => exact ih ls he
    | «mut» s =>
      simp only [outLeaves] at he
      split at he
      · rename_i r l h1 h2
        split at he
        · rename_i l0 hr
          split at he
          · rename_i hlen
            cases he
            obtain ⟨oc, o1, o2⟩ := ih l h2
            obtain ⟨l', e1, e2⟩ := (show PtrRel c st.us st.vs G w (.var r 0) (tmOf a j) from h.slot j _ h1)
            rw [hv0 rfl] at e2
            obtain ⟨cs, a1, a2, a3⟩ := h.var r l0 hr
            refine ⟨cs ++ oc, LsRel.append a1 o1, cs, oc, rfl, by rw [a1.length, hlen], ⟨_, _, e2, fun i u hi => a2 i u hi⟩, o2⟩
          · cases he
        · cases he
      · cases he
    | fld s o e =>
      simp only [outLeaves] at he
      split at he
      · rename_i l0 l h1 h2
        split at he
        · rename_i lf hlf
          cases he
          obtain ⟨oc, o1, o2⟩ := ih l h2
          obtain ⟨g, q, inner, e1, e2, e3⟩ := (show PtrRel c st.us st.vs G w (.cells l0 0) (tmOf a j) from h.slot j _ h1)
          rw [hv0 rfl] at e1
          have hlen := e2.length
          have hol : o < l0.length := (List.getElem?_eq_some_iff.1 hlf).1
          have hoi : o < inner.length := by omega
          have hat := LsRel.at e2 hlf (List.getElem?_eq_getElem hoi)
          obtain ⟨c1, c2⟩ := e3 o _ (List.getElem?_eq_getElem hoi)
          exact ⟨inner[o] :: oc, ⟨hat, o1⟩, inner[o], oc, rfl, ⟨g, q, e1, by rw [h.okCell c2]; exact c1⟩, o2⟩
        · cases he
      · cases he
    | muts e =>
      simp only [outLeaves] at he
      split at he
      · rename_i l0 l h1 h2
        cases he
        obtain ⟨oc, o1, o2⟩ := ih l h2
        have := (show VLs c st.us G w false [l0] (tmOf a j) from h.slot j _ h1)
        rw [hv0 rfl] at this
        exact ⟨v :: oc, ⟨this.1, o1⟩, oc, rfl, o2⟩
      · cases he
end
end Go.Proofs.YtaflceohlijekaaGreat.Ev
namespace Go.Proofs.YtaflceohlijekaaGreat.Ev
section
variable {P : Program} {E : Env} {tk : Nat -> Bool} {c : Cx} {st : St} {G G' : Gh} {w w' : World} {a : Act}
theorem results_run {fn : Func} {q : List Value} (h : (fn.results.toList.mapM (resVal a)).run P w = .ok q w) : (results fn a.tmps).run P w = .ok (if h : q.toArray.size = 1 then q.toArray[0] else .tuple q.toArray) w := by
  have e : results fn a.tmps = (do let vs <- fn.results.mapM (resVal a); pure (if h : vs.size = 1 then vs[0] else .tuple vs)) := by
    unfold results
    congr 1
  rw [e, Array.mapM_eq_mapM_toList]
  simp [h]
theorem fin_sound (htk : ∀ t, tk t = true -> TyOk P E t) {f : Nat} {fn : Func} {args : List Value} {r : (E.sig f).R.T} (h : Rel c st G w (tmOf a)) (hcell : ∀ v ∈ fn.results.toList, match v with | .cell _ t => tk t = true | .tmp _ => True)
    (hpin : ∀ i v p, args[i]? = some v -> (E.sig f).ps[i]? = some p -> p.isMut = true -> c.pin i = some v) (hl : args.length = (E.sig f).ps.length) (hd : a.defers = []) (hf : fin E f fn st = some r) :
    a.defers = [] /\ ∃ v, (results fn a.tmps).run P w = .ok v w /\ Post E c f args r (.returned v) w := by
  refine ⟨hd, ?_⟩
  unfold fin at hf
  split at hf
  · rename_i la lb h1 h2
    split at hf
    · rename_i x nu hg
      simp only [Option.some.injEq] at hf
      subst hf
      obtain ⟨q, rc, q1, q2, q3, q4, q5⟩ := res_one htk h _ _ _ hcell h1
      obtain ⟨oc, o1, o2⟩ := out_ok h _ 0 args lb h2 hl (fun i v p hi hp hm => by rw [Nat.zero_add]; exact h.pin i v (hpin i v p hi hp hm))
      obtain ⟨v1, v2, F, e1, e2, e3, e4, e5⟩ := give_own h _ st.us (la ++ lb) _ nu [] (rc ++ oc) (fun _ _ _ _ p => p) hg (LsRel.append q3 o1)
      have hv2 : v2 = [] := by have := e3.length; simpa using this
      subst hv2
      rw [List.append_nil] at e1
      subst e1
      refine ⟨_, results_run q1, rc, oc, F, h.kept, ?_, q5, o2, e4, fun b hb => ?_⟩
      · generalize hrs : (E.sig f).rs = rs at q2 q4
        unfold ValRel
        split
        · rename_i g s
          obtain ⟨v, q', c1, c2, rfl, rfl, t1, t2, t3, rfl⟩ := q2
          subst t3
          simpa using t2
        · rename_i hne
          have : ¬ q.toArray.size = 1 := by
            simp only [List.size_toArray]
            intro hq
            rw [hq] at q4
            match rs, q4 with
            | [(g, s)], _ => exact hne g s rfl
          simp only [this, dite_false]
          exact ⟨q, rfl, q2⟩
      · obtain ⟨k, ep, e, xs, _, p2, p3⟩ := e5.foot b hb
        exact h.fUnit k _ _ _ p2 b p3
    · cases hf
  · cases hf
theorem argSt_plain : ∀ (ps : List Par) (x : (prod (shsOf ps)).T) (ts : List Nat) (j : Nat), (∀ p ∈ ps, p.isMut = false) -> (argSt E ps x ts j).us = [] /\ (argSt E ps x ts j).vs = []
  | [], _, _, _, _ => ⟨rfl, rfl⟩
  | [p], x, ts, j, hm => by
    have := hm p (by simp)
    cases p <;> first | exact ⟨rfl, rfl⟩ | cases this
  | p :: q :: t, x, ts, j, hm => by
    have h1 := hm p (by simp)
    have ih := argSt_plain (q :: t) x.2 (ts.drop 1) (j + 1) (fun p' hp' => hm p' (List.mem_cons_of_mem _ hp'))
    cases p <;> first | exact ih | cases h1
theorem UCompat.nil (us' : List (Nat × UE)) (G G' : Gh) (w w' : World) : UCompat [] us' G G' w w' := fun k en h => by cases h
theorem VCompat.nil (vs' : List (Nat × List Lf)) (G G' : Gh) : VCompat [] vs' G G' := fun k en h => by cases h
theorem argOne_rel {tm : Nat -> Value} {r : St} (h : Rel c r G c.w0 tm) {p : Par} {x : p.sh.T} {t j : Nat} (ha : ArgRel c p x (tm j)) (hm : p.isMut = true -> r.us = [] /\ r.vs = []) : ∃ G', Rel c (argOne E t j p x r) G' c.w0 tm := by
  cases p with
  | val g s =>
    refine ⟨G, h.reslot ?_⟩
    cases g with
    | true => obtain ⟨cs, e1, e2⟩ := ha; exact ⟨cs, e1, e2.ls⟩
    | false => exact RdL.ls (show RdL c.w0 c.ok (flat s x) [tm j] from ha)
  | ro s =>
    obtain ⟨g, o, inner, e1, e2, e3, e4⟩ := ha
    exact ⟨G, h.reslot (show VRel c r.us r.vs G c.w0 (.ptr (.ext s x 0)) (tm j) from ⟨g, o, inner, by rw [e1, Nat.add_zero], e2, e3, e4⟩)⟩
  | «mut» s =>
    obtain ⟨g, o, inner, F, e1, e2, e3, e4, e5, e6, e7, e8⟩ := ha
    obtain ⟨hu, hv⟩ := hm rfl
    obtain ⟨sl, vs, us⟩ := r
    simp only at hu hv
    subst hu
    subst hv
    obtain ⟨uv, uf, ho, hrel⟩ := ownify_own (flat s x) inner F (64 * j) e5
    let G' : Gh := { uv := uv, uf := uf, va := fun _ => (g, o) }
    have hil : inner.length = s.n := by rw [e5.length, flat_length]
    have hvar : ∀ r ls, getA [(1000000 + j, (ownify (flat s x) (64 * j)).1)] r = some ls -> ls = (ownify (flat s x) (64 * j)).1 /\ r = 1000000 + j := by
      intro r ls hr
      rw [getA_cons] at hr
      split at hr
      · rename_i e; cases hr; exact ⟨rfl, e.symm⟩
      · cases hr
    have hol : (ownify (flat s x) (64 * j)).1.length = s.n := by rw [ownify_length, flat_length]
    have hus : (ownify (flat s x) (64 * j)).2 ++ [] = (ownify (flat s x) (64 * j)).2 := List.append_nil _
    refine ⟨G', ⟨h.kept, fun k ep e xs hk => ?_, fun k ep e xs hk b hb => ?_, fun r ls hr => ?_, fun r ls hr => ?_, fun r ls hr j' hj => ?_, fun k1 k2 ep1 e1 xs1 ep2 e2 xs2 h1 h2 hne => ?_, fun k ep e xs r ls hk hr hb => ?_, fun r1 r2 l1 l2 h1 h2 hne => ?_, fun t' v hv => ?_, h.pin⟩⟩
    · simp only [argOne, hus] at hk
      obtain ⟨e', xs', q1, q2, _⟩ := ho.own k _ hk
      cases q1
      exact q2
    · simp only [argOne, hus] at hk
      obtain ⟨e', xs', q1, _, q3⟩ := ho.own k _ hk
      exact .inl (e6 b (q3 b hb))
    · obtain ⟨rfl, rfl⟩ := hvar r ls hr
      refine ⟨inner, hrel c _ G' (fun i en hi => ?_) (fun i hi => rfl), fun i v hi => e3 i v hi, fun i hi => e4 i (by omega)⟩
      simp only [argOne, hus]
      exact hi
    · exact e2
    · obtain ⟨rfl, rfl⟩ := hvar r ls hr
      exact .inl (e7 j' (by omega))
    · simp only [argOne, hus] at h1 h2
      exact ho.dj k1 k2 (ne_none h1) (ne_none h2) hne
    · simp only [argOne, hus] at hk
      obtain ⟨e', xs', q1, _, q3⟩ := ho.own k _ hk
      exact e8 (q3 _ hb)
    · exact absurd ((hvar r1 l1 h1).2.trans (hvar r2 l2 h2).2.symm) hne
    · simp only [argOne, getA_cons] at hv
      split at hv
      · rename_i e
        subst e
        cases hv
        exact ⟨_, by simp only [argOne]; rw [getA_cons, if_pos rfl], by rw [e1]; rfl⟩
      · exact (h.slot t' v hv).carry (UCompat.nil _ _ _ _ _) (VCompat.nil _ _ _)
  | fld s o e =>
    obtain ⟨g, q, hv0, F, inner, e0, e3, e4, e5, e1, e2⟩ := ha
    obtain ⟨hu, hv⟩ := hm rfl
    obtain ⟨sl, vs, us⟩ := r
    simp only at hu hv
    subst hu
    subst hv
    let G' : Gh := { uv := fun _ => hv0, uf := fun _ => F, va := fun _ => (0, 0) }
    have hone : ∀ k ep e' xs, getA [(64 * j, UE.own 0 e x)] k = some (.own ep e' xs) -> k = 64 * j /\ UE.own 0 e x = .own ep e' xs := by
      intro k ep e' xs hk
      rw [getA_cons] at hk
      split at hk
      · rename_i q; cases hk; exact ⟨q.symm, rfl⟩
      · cases hk
    have hlf : LfRel c [(64 * j, UE.own 0 e x)] G' c.w0 (.own (64 * j) 0 [] e) hv0 := by
      refine ⟨_, by rw [getA_cons, if_pos rfl], fun ep1 e1' xs1 he => ?_⟩
      cases he
      exact ⟨fun q => absurd rfl q, fun _ => ⟨x, .nil⟩⟩
    have hcells : ∀ (n o : Nat) (inner : List Value), inner.length = n -> inner[o]? = some hv0 -> (∀ (j : Nat) (u : Value), inner[j]? = some u -> u.oneCell' = true) -> LsRel c [(64 * j, UE.own 0 e x)] G' c.w0 ((List.replicate n Lf.dead).set o (.own (64 * j) 0 [] e)) inner := by
      have dead : ∀ (n : Nat) (inner : List Value), inner.length = n -> (∀ (j : Nat) (u : Value), inner[j]? = some u -> u.oneCell' = true) -> LsRel c [(64 * j, UE.own 0 e x)] G' c.w0 (List.replicate n Lf.dead) inner := by
        intro n
        induction n with
        | zero => intro inner hl _; rw [List.eq_nil_of_length_eq_zero hl]; trivial
        | succ n ih =>
          intro inner hl ho
          match inner, hl with
          | u :: t, hl => exact ⟨⟨trivial, ho 0 u rfl⟩, ih t (by simpa using hl) (fun j u' hj => ho (j + 1) u' (by simpa using hj))⟩
      intro n
      induction n with
      | zero => intro o inner hl hi; rw [List.eq_nil_of_length_eq_zero hl] at hi; simp at hi
      | succ n ih =>
        intro o inner hl hi ho
        match inner, hl with
        | u :: t, hl =>
          cases o with
          | zero =>
            simp only [List.getElem?_cons_zero, Option.some.injEq] at hi
            subst hi
            exact ⟨⟨hlf, ho 0 u rfl⟩, dead n t (by simpa using hl) (fun j u' hj => ho (j + 1) u' (by simpa using hj))⟩
          | succ o => exact ⟨⟨trivial, ho 0 u rfl⟩, ih o t (by simpa using hl) (by simpa using hi) (fun j u' hj => ho (j + 1) u' (by simpa using hj))⟩
    refine ⟨G', ⟨h.kept, fun k ep e' xs hk => ?_, fun k ep e' xs hk b hb => .inl (e2 b hb), fun r ls hr => (by cases hr), fun r ls hr => (by cases hr), fun r ls hr => (by cases hr), fun k1 k2 ep1 e1 xs1 ep2 e2 xs2 h1 h2 hne => ?_, fun k ep e xs r ls hk hr => (by cases hr), fun r1 r2 l1 l2 h1 => (by cases h1), fun t' v hv => ?_, h.pin⟩⟩
    · obtain ⟨_, q⟩ := hone k ep e' xs hk
      cases q
      exact e1
    · exact absurd ((hone _ _ _ _ h1).1.trans (hone _ _ _ _ h2).1.symm) hne
    · simp only [argOne, getA_cons] at hv
      split at hv
      · rename_i q'
        subst q'
        cases hv
        exact ⟨g, q, inner, by rw [e0, Nat.add_zero], hcells s.n o inner e3 e5 (fun j u hj => (e4 j u hj).2.2), fun j u hj => ⟨(e4 j u hj).1, (e4 j u hj).2.1⟩⟩
      · exact (h.slot t' v hv).carry (UCompat.nil _ _ _ _ _) (VCompat.nil _ _ _)
  | muts e =>
    obtain ⟨F, e1, e2⟩ := ha
    obtain ⟨hu, hv⟩ := hm rfl
    obtain ⟨sl, vs, us⟩ := r
    simp only at hu hv
    subst hu
    subst hv
    let G' : Gh := { uv := fun _ => tm j, uf := fun _ => F, va := fun _ => (0, 0) }
    have hone : ∀ k ep e' xs, getA [(64 * j, UE.own 0 e x)] k = some (.own ep e' xs) -> k = 64 * j /\ UE.own 0 e x = .own ep e' xs := by
      intro k ep e' xs hk
      rw [getA_cons] at hk
      split at hk
      · rename_i q; cases hk; exact ⟨q.symm, rfl⟩
      · cases hk
    refine ⟨G', ⟨h.kept, fun k ep e' xs hk => ?_, fun k ep e' xs hk b hb => .inl (e2 b hb), fun r ls hr => (by cases hr), fun r ls hr => (by cases hr), fun r ls hr => (by cases hr), fun k1 k2 ep1 e1 xs1 ep2 e2 xs2 h1 h2 hne => ?_, fun k ep e xs r ls hk hr => (by cases hr), fun r1 r2 l1 l2 h1 => (by cases h1), fun t' v hv => ?_, h.pin⟩⟩
    · obtain ⟨_, q⟩ := hone k ep e' xs hk
      cases q
      exact e1
    · exact absurd ((hone _ _ _ _ h1).1.trans (hone _ _ _ _ h2).1.symm) hne
    · simp only [argOne, getA_cons] at hv
      split at hv
      · rename_i q
        subst q
        cases hv
        have hone' := own_one e1
        refine ⟨⟨⟨_, by simp only [argOne]; rw [getA_cons, if_pos rfl], fun ep1 e1' xs1 he => ?_⟩, hone'⟩, trivial⟩
        cases he
        exact ⟨fun q => absurd rfl q, fun _ => ⟨x, .nil⟩⟩
      · exact (h.slot t' v hv).carry (UCompat.nil _ _ _ _ _) (VCompat.nil _ _ _)
theorem rel_empty {tm : Nat -> Value} (hpin : ∀ t v, c.pin t = some v -> tm t = v) (G : Gh) : Rel c { sl := [], vs := [], us := [] } G c.w0 tm :=
  ⟨.refl _ _ _, fun _ _ _ _ h => (by cases h), fun _ _ _ _ h => (by cases h), fun _ _ h => (by cases h), fun _ _ h => (by cases h), fun _ _ h => (by cases h), fun _ _ _ _ _ _ _ _ h => (by cases h), fun _ _ _ _ _ _ h => (by cases h), fun _ _ _ _ h => (by cases h), fun _ _ h => (by cases h), hpin⟩
theorem argSt_rel {tm : Nat -> Value} (hpin : ∀ t v, c.pin t = some v -> tm t = v) : ∀ (ps : List Par) (x : (prod (shsOf ps)).T) (vs : List Value) (ts : List Nat) (j : Nat), oneMut ps = true -> ArgsRel c ps x vs -> (∀ i v, vs[i]? = some v -> tm (j + i) = v) -> ∃ G, Rel c (argSt E ps x ts j) G c.w0 tm
  | [], x, vs, ts, j, ho, ha, hv => ⟨⟨fun _ => .bool true, fun _ _ => False, fun _ => (0, 0)⟩, rel_empty hpin _⟩
  | [p], x, vs, ts, j, ho, ha, hv => by
    obtain ⟨v, rfl, ha⟩ := ha
    have : tm j = v := by simpa using hv 0 v rfl
    subst this
    exact argOne_rel (rel_empty hpin ⟨fun _ => .bool true, fun _ _ => False, fun _ => (0, 0)⟩) ha (fun _ => ⟨rfl, rfl⟩)
  | p :: q :: t, x, vs, ts, j, ho, ha, hv => by
    obtain ⟨v, vt, rfl, ha, hr⟩ := ha
    have hj : tm j = v := by simpa using hv 0 v rfl
    subst hj
    have ho2 : oneMut (q :: t) = true /\ (p.isMut = true -> ∀ p' ∈ (q :: t), p'.isMut = false) := by
      rw [oneMut] at ho
      split at ho
      · rename_i hp
        have hall := any_false ho
        refine ⟨?_, fun _ => hall⟩
        have none_one : ∀ (l : List Par), (∀ p ∈ l, p.isMut = false) -> oneMut l = true := by
          intro l
          induction l with
          | nil => intro _; rfl
          | cons b l ih =>
            intro hl
            rw [oneMut, hl b (by simp)]
            exact ih (fun p hp => hl p (List.mem_cons_of_mem _ hp))
        exact none_one _ hall
      · rename_i hp
        exact ⟨ho, fun q => by rw [q] at hp; cases hp⟩
    obtain ⟨G, h⟩ := argSt_rel hpin (q :: t) x.2 vt (ts.drop 1) (j + 1) ho2.1 hr (fun i u hi => by
      have := hv (i + 1) u (by simpa using hi)
      rwa [show j + (i + 1) = j + 1 + i by omega] at this)
    exact argOne_rel h ha (fun hp => argSt_plain (q :: t) x.2 (ts.drop 1) (j + 1) (ho2.2 hp))
def mutAt (ps : List Par) (d : Nat) : Bool := match ps[d]? with | some p => p.isMut | none => false
def fnOk (P : Program) (E : Env) (tk : Nat -> Bool) (f : Nat) (fn : Func) : Bool :=
  (match fn.body with | some b => codeOk P E tk (mutAt (E.sig f).ps) fn.ntmps b | none => true) &&
  decide ((E.sig f).ps.length <= fn.ntmps) && fn.results.toList.all (fun v => match v with | .cell _ t => tk t | .tmp _ => true)
theorem args_length : ∀ (ps : List Par) (x : (prod (shsOf ps)).T) (vs : List Value), ArgsRel c ps x vs -> vs.length = ps.length
  | [], _, _, h => by subst h; rfl
  | [p], _, _, h => by obtain ⟨v, rfl, _⟩ := h; rfl
  | p :: q :: t, x, _, h => by
    obtain ⟨v, vt, rfl, _, h2⟩ := h
    simp [args_length (q :: t) x.2 vt h2]
theorem args_pin (pin : Nat -> Option Value) : ∀ (ps : List Par) (x : (prod (shsOf ps)).T) (vs : List Value), ArgsRel c ps x vs -> ArgsRel { c with pin := pin } ps x vs
  | [], _, _, h => h
  | [p], _, _, h => by
    obtain ⟨v, e, h⟩ := h
    refine ⟨v, e, ?_⟩
    cases p with
    | val g s => cases g <;> exact h
    | _ => exact h
  | p :: q :: t, x, _, h => by
    obtain ⟨v, vt, e, h, h2⟩ := h
    refine ⟨v, vt, e, ?_, args_pin pin (q :: t) x.2 vt h2⟩
    cases p with
    | val g s => cases g <;> exact h
    | _ => exact h
theorem evFn_sound (htk : ∀ t, tk t = true -> TyOk P E t) (hrest : ∀ np c, (∀ d, np d = false -> c.pin d = none) -> Rest P E tk np c) (fs : Nat -> Option Func) (hfs : ∀ f fn, fs f = some fn -> P.funcs[f]? = some fn /\ fnOk P E tk f fn = true) :
    ∀ (n f : Nat) (x : (E.sig f).A.T) (r : (E.sig f).R.T), evFn E fs n f x = some r -> FnSpec P E f x r
  | 0, f, x, r, h => by cases h
  | n + 1, f, x, r, h => by
    simp only [evFn] at h
    split at h
    · cases h
    · rename_i fn hfn
      obtain ⟨hP, hok⟩ := hfs f fn hfn
      unfold evBody at h
      split at h
      · cases h
      · rename_i code hcode
        cases hone : oneMut (E.sig f).ps with
        | false => rw [hone] at h; cases h
        | true =>
          rw [hone] at h
          simp only [cond_true] at h
          intro c args hargs
          unfold fnOk at hok
          rw [hcode] at hok
          simp only [Bool.and_eq_true, decide_eq_true_eq, List.all_eq_true] at hok
          obtain ⟨⟨ok1, ok2⟩, ok3⟩ := hok
          have hlen := args_length _ _ _ hargs
          let c' : Cx := { c with pin := fun i => bif mutAt (E.sig f).ps i then args[i]? else none }
          have hnp : ∀ d, mutAt (E.sig f).ps d = false -> c'.pin d = none := fun d hd => by simp only [c', hd, cond_false]
          let a0 : Act := { tmps := args.toArray ++ Array.replicate (fn.ntmps - args.toArray.size) undef, defers := [] }
          have hsize : a0.tmps.size = fn.ntmps := by simp [a0]; omega
          have htm : ∀ i v, args[i]? = some v -> tmOf a0 i = v := by
            intro i v hi
            have hil : i < args.length := (List.getElem?_eq_some_iff.1 hi).1
            simp only [tmOf, a0, Array.getD_eq_getD_getElem?]
            rw [Array.getElem?_append_left (by simpa using hil)]
            simp [hi]
          obtain ⟨G, hrel⟩ := argSt_rel (E := E) (c := c') (tm := tmOf a0) (fun i v hi => by
            cases hb : mutAt (E.sig f).ps i with
            | false => simp only [c', hb, cond_false] at hi; cases hi
            | true => simp only [c', hb, cond_true] at hi; exact htm i v hi) (E.sig f).ps x args fn.params.toList 0 hone (args_pin _ _ _ _ hargs) (fun i v hi => by rw [Nat.zero_add]; exact htm i v hi)
          refine calls_of_wp hP hcode ?_
          have hfin : ∀ st' G' a' w', fin E f fn st' = some r -> Rel c' st' G' w' (tmOf a') -> a'.defers = [] -> a'.tmps.size = fn.ntmps -> a'.defers = [] /\ ∃ v, (results fn a'.tmps).run P w' = .ok v w' /\ Post E c f args r (.returned v) w' := by
            intro st' G' a' w' h1 h2 h3 h4
            exact fin_sound (c := c') htk h2 (fun v hv => by have := ok3 v hv; cases v <;> first | trivial | exact this) (fun i v p hi hp hm => by simp only [c', mutAt, hp, hm, cond_true]; exact hi) hlen h3 h1
          exact evC_sound (c := c') htk (evFn_sound htk hrest fs hfs n) hnp (hrest _ c' hnp) (E.sk f) (fin E f fn) r [] fn.ntmps code 0 _ (fin E f fn) (fun _ _ => none) _ G c.w0 a0 ok1 rfl hsize hrel h hfin (fun i st' G' a' w' h1 => by cases h1) hfin
end
end Go.Proofs.YtaflceohlijekaaGreat.Ev
namespace Go.Proofs.YtaflceohlijekaaGreat.Ev
section
variable {c : Cx} {st : St} {G : Gh} {w : World} {tm : Nat -> Value}
structure CnInv (st : St) (G : Gh) (w : World) (n : Cn) (H : Gh) : Prop where
  own : ∀ i en, getA n.us i = some en -> ∃ e xs, en = .own 0 e xs /\ OwnL w [.ext e xs] [H.uv i] (H.uf i)
  src : ∀ i b, getA n.us i ≠ none -> H.uf i b -> ∃ k ep e xs, getA n.m k ≠ none /\ getA st.us k = some (.own ep e xs) /\ G.uf k b
  dj : ∀ i j, getA n.us i ≠ none -> getA n.us j ≠ none -> i ≠ j -> Dj (H.uf i) (H.uf j)
  map : ∀ k i, getA n.m k = some (some i) -> ∃ ep e xs, getA st.us k = some (.own ep e xs) /\ getA n.us i = some (.own 0 e xs) /\ H.uv i = G.uv k
  va : H.va = G.va
structure Grow (n : Cn) (H : Gh) (n' : Cn) (H' : Gh) : Prop where
  us : ∀ i en, getA n.us i = some en -> getA n'.us i = some en /\ H'.uv i = H.uv i
theorem Grow.refl (n : Cn) (H : Gh) : Grow n H n H := ⟨fun _ _ h => ⟨h, rfl⟩⟩
theorem Grow.trans {n1 H1 n2 H2 n3 H3} (a : Grow n1 H1 n2 H2) (b : Grow n2 H2 n3 H3) : Grow n1 H1 n3 H3 :=
  ⟨fun i en h => by obtain ⟨h1, h2⟩ := a.us i en h; obtain ⟨h3, h4⟩ := b.us i en h1; exact ⟨h3, h4.trans h2⟩⟩
theorem CnInv.add (h : Rel c st G w tm) {n : Cn} {H : Gh} (hi : CnInv st G w n H) {id : Nat} (hid : getA n.us id = none) {e : Sh} {xs : List e.T} {v : Value} {F : Nat -> Prop} (ho : OwnL w [.ext e xs] [v] F) {m' : List (Nat × Option Nat)} (hm : ∀ k, getA n.m k ≠ none -> getA m' k ≠ none)
    (hF : ∀ b, F b -> ∃ k ep e xs, getA m' k ≠ none /\ getA n.m k = none /\ getA st.us k = some (.own ep e xs) /\ G.uf k b)
    (hmap : ∀ k i, getA m' k = some (some i) -> getA n.m k = some (some i) \/ (i = id /\ ∃ ep, getA st.us k = some (.own ep e xs) /\ v = G.uv k)) :
    ∃ H', CnInv st G w ⟨m', (id, .own 0 e xs) :: n.us⟩ H' /\ Grow n H ⟨m', (id, .own 0 e xs) :: n.us⟩ H' /\ H'.uv id = v := by
  let H' : Gh := { va := H.va, uv := fun i => if i = id then v else H.uv i, uf := fun i => if i = id then F else H.uf i }
  have hne : ∀ i, getA n.us i ≠ none -> i ≠ id := fun i hi e => hi (e ▸ hid)
  have hget : ∀ i, getA ((id, UE.own 0 e xs) :: n.us) i ≠ none -> i = id \/ (i ≠ id /\ getA n.us i ≠ none) := by
    intro i hi
    by_cases hii : i = id
    · exact .inl hii
    · rw [getA_cons, if_neg (fun e => hii e.symm)] at hi
      exact .inr ⟨hii, hi⟩
  have cross : ∀ i, getA n.us i ≠ none -> Dj F (H.uf i) := by
    intro i hi2 b hb hb2
    obtain ⟨k1, ep1, e1, xs1, p1, p2, p3, p4⟩ := hF b hb
    obtain ⟨k2, ep2, e2, xs2, q1, q2, q3⟩ := hi.src i b hi2 hb2
    exact h.dUU k1 k2 _ _ _ _ _ _ p3 q2 (fun e => by rw [e] at p2; exact q1 p2) b p4 q3
  refine ⟨H', ⟨fun i en hg => ?_, fun i b hg hb => ?_, fun i j hg1 hg2 hne2 => ?_, fun k i hk => ?_, hi.va⟩, ⟨fun i en hg => ?_⟩, by simp [H']⟩
  · rw [getA_cons] at hg
    split at hg
    · rename_i e1
      subst e1
      cases hg
      exact ⟨_, _, rfl, by simpa [H'] using ho⟩
    · rename_i e1
      have hii : i ≠ id := fun e => e1 e.symm
      simpa [H', hii] using hi.own i en hg
  · rcases hget i hg with rfl | ⟨hii, hg'⟩
    · have hb : F b := by simpa [H'] using hb
      obtain ⟨k, ep, e, xs, p1, p2, p3, p4⟩ := hF b hb
      exact ⟨k, ep, e, xs, p1, p3, p4⟩
    · have hb : H.uf i b := by simpa [H', hii] using hb
      obtain ⟨k, ep, e, xs, p1, p2, p3⟩ := hi.src i b hg' hb
      exact ⟨k, ep, e, xs, hm k p1, p2, p3⟩
  · rcases hget i hg1 with rfl | ⟨hii, hg1'⟩ <;> rcases hget j hg2 with rfl | ⟨hjj, hg2'⟩
    · exact absurd rfl hne2
    · have := cross j hg2'
      simpa [H', hjj] using this
    · have := cross i hg1'
      intro b b1 b2
      simp only [H', hii, if_false, if_true] at b1 b2
      exact this b b2 b1
    · have := hi.dj i j hg1' hg2' hne2
      simpa [H', hii, hjj] using this
  · rcases hmap k i hk with q | ⟨rfl, ep, q1, q2⟩
    · obtain ⟨ep, e', xs', q1, q2, q3⟩ := hi.map k i q
      have hii := hne i (ne_none q2)
      exact ⟨ep, e', xs', q1, by rw [getA_cons, if_neg (fun e => hii e.symm)]; exact q2, by simpa [H', hii] using q3⟩
    · exact ⟨ep, e, xs, q1, by rw [getA_cons, if_pos rfl], by simpa [H'] using q2⟩
  · have hii := hne i (ne_none hg)
    exact ⟨by rw [getA_cons, if_neg (fun e => hii e.symm)]; exact hg, by simp [H', hii]⟩
theorem own_lf {us : List (Nat × UE)} {H : Gh} {i : Nat} {e : Sh} {xs : List e.T} {v : Value} (hg : getA us i = some (.own 0 e xs)) (hv : H.uv i = v) : LfRel c us H w (.own i 0 [] e) v := by
  refine ⟨_, hg, fun ep1 e1 xs1 he => ?_⟩
  cases he
  exact ⟨fun q => absurd rfl q, fun _ => ⟨xs, hv ▸ .nil⟩⟩
theorem cnLf_ok (h : Rel c st G w tm) {n : Cn} {H : Gh} (hi : CnInv st G w n H) (id : Nat) {l : Lf} {v : Value} (hl : LfRel c st.us G w l v) :
    ∃ H', CnInv st G w (cnLf st.us id n l).2 H' /\ Grow n H (cnLf st.us id n l).2 H' /\ LfRel c (cnLf st.us id n l).2.us H' w (cnLf st.us id n l).1 v := by
  cases l with
  | int k x => exact ⟨H, hi, .refl _ _, hl⟩
  | bool b => exact ⟨H, hi, .refl _ _, hl⟩
  | str s => exact ⟨H, hi, .refl _ _, hl⟩
  | ext e xs => exact ⟨H, hi, .refl _ _, hl⟩
  | dead => exact ⟨H, hi, .refl _ _, trivial⟩
  | nl e =>
    simp only [cnLf]
    split
    · rename_i hid
      have hv : v = .slice none 0 0 := hl
      obtain ⟨H', h1, h2, h3⟩ := hi.add h hid (e := e) (xs := []) (v := v) (F := fun _ => False) (by rw [hv]; exact .nl .nil) (m' := n.m) (fun _ q => q) (fun _ q => q.elim) (fun k i q => .inl q)
      exact ⟨H', h1, h2, own_lf (by rw [getA_cons, if_pos rfl]) h3⟩
    · exact ⟨H, hi, .refl _ _, trivial⟩
  | own k ep p e =>
    cases p with
    | cons a t => exact ⟨H, hi, .refl _ _, trivial⟩
    | nil =>
      simp only [cnLf]
      split
      · rename_i i hm
        obtain ⟨ep', e', xs, q1, q2, q3⟩ := hi.map k i hm
        obtain ⟨en, r1, r2⟩ := hl
        rw [q1] at r1
        cases r1
        obtain ⟨ys, hd⟩ := (r2 _ _ _ rfl).2 (.inl rfl)
        have hv : e = e' /\ v = G.uv k := by
          generalize G.uv k = u at hd
          cases hd
          exact ⟨rfl, rfl⟩
        obtain ⟨rfl, rfl⟩ := hv
        exact ⟨H, hi, .refl _ _, own_lf q2 q3⟩
      · exact ⟨H, hi, .refl _ _, trivial⟩
      · rename_i hm
        split
        · rename_i ep' e' xs hk hid
          obtain ⟨en, r1, r2⟩ := hl
          rw [hk] at r1
          cases r1
          obtain ⟨ys, hd⟩ := (r2 _ _ _ rfl).2 (.inl rfl)
          have hv : e = e' /\ v = G.uv k := by
            generalize G.uv k = u at hd
            cases hd
            exact ⟨rfl, rfl⟩
          obtain ⟨rfl, rfl⟩ := hv
          obtain ⟨H', h1, h2, h3⟩ := hi.add h hid (h.unit _ _ _ _ hk) (m' := (k, some id) :: n.m) (fun k' hk' => by
              rw [getA_cons]
              split
              · exact fun q => by cases q
              · exact hk') (fun b hb => ⟨k, _, _, _, (by rw [getA_cons, if_pos rfl]; exact fun q => (by cases q)), hm, hk, hb⟩) (fun k' i' hk' => by
              rw [getA_cons] at hk'
              split at hk'
              · rename_i hkk
                subst hkk
                cases hk'
                exact .inr ⟨rfl, _, hk, rfl⟩
              · exact .inl hk')
          exact ⟨H', h1, h2, own_lf (by rw [getA_cons, if_pos rfl]) h3⟩
        · exact ⟨H, hi, .refl _ _, trivial⟩
  | sub k ep p e lo len =>
    cases p with
    | cons a t => exact ⟨H, hi, .refl _ _, trivial⟩
    | nil =>
      simp only [cnLf]
      split
      · rename_i i hm
        obtain ⟨ep', e', xs, q1, q2, q3⟩ := hi.map k i hm
        obtain ⟨en, r1, r2⟩ := hl
        rw [q1] at r1
        cases r1
        obtain ⟨ys, v0, hd, hsub⟩ := (r2 _ _ _ rfl).2 (.inl rfl)
        have hv : e = e' /\ v0 = G.uv k := by
          generalize G.uv k = u at hd
          cases hd
          exact ⟨rfl, rfl⟩
        obtain ⟨rfl, rfl⟩ := hv
        refine ⟨H, hi, .refl _ _, ⟨_, q2, fun ep1 e1 xs1 he => ?_⟩⟩
        cases he
        exact ⟨fun q => absurd rfl q, fun _ => ⟨xs, _, q3 ▸ .nil, hsub⟩⟩
      · exact ⟨H, hi, .refl _ _, trivial⟩
      · rename_i hm
        split
        · rename_i ep' e' xs hk hid
          obtain ⟨en, r1, r2⟩ := hl
          rw [hk] at r1
          cases r1
          obtain ⟨ys, v0, hd, hsub⟩ := (r2 _ _ _ rfl).2 (.inl rfl)
          have hv : e = e' /\ v0 = G.uv k := by
            generalize G.uv k = u at hd
            cases hd
            exact ⟨rfl, rfl⟩
          obtain ⟨rfl, rfl⟩ := hv
          obtain ⟨F', f1, f2⟩ := (h.unit _ _ _ _ hk).sub hsub
          obtain ⟨H', h1, h2, h3⟩ := hi.add h hid f1 (m' := (k, none) :: n.m) (fun k' hk' => by
              rw [getA_cons]
              split
              · exact fun q => by cases q
              · exact hk') (fun b hb => ⟨k, _, _, _, (by rw [getA_cons, if_pos rfl]; exact fun q => (by cases q)), hm, hk, f2 b hb⟩) (fun k' i' hk' => by
              rw [getA_cons] at hk'
              split at hk'
              · cases hk'
              · exact .inl hk')
          exact ⟨H', h1, h2, own_lf (by rw [getA_cons, if_pos rfl]) h3⟩
        · exact ⟨H, hi, .refl _ _, trivial⟩
end
end Go.Proofs.YtaflceohlijekaaGreat.Ev
namespace Go.Proofs.YtaflceohlijekaaGreat.Ev
section
variable {c : Cx} {st : St} {G : Gh} {w : World} {tm : Nat -> Value}
theorem LfRel.grow {n n' : Cn} {H H' : Gh} (g : Grow n H n' H') {l v} (h : LfRel c n.us H w l v) : LfRel c n'.us H' w l v := by
  cases l with
  | own k ep p e =>
    obtain ⟨en, h1, h2⟩ := h
    obtain ⟨g1, g2⟩ := g.us k en h1
    exact ⟨en, g1, by rw [g2]; exact h2⟩
  | sub k ep p e lo len =>
    obtain ⟨en, h1, h2⟩ := h
    obtain ⟨g1, g2⟩ := g.us k en h1
    exact ⟨en, g1, by rw [g2]; exact h2⟩
  | _ => exact h
theorem LsRel.grow {n n' : Cn} {H H' : Gh} (g : Grow n H n' H') : ∀ {ls vs}, LsRel c n.us H w ls vs -> LsRel c n'.us H' w ls vs
  | [], [], _ => trivial
  | _ :: _, _ :: _, h => ⟨⟨h.1.1.grow g, h.1.2⟩, LsRel.grow g h.2⟩
  | [], _ :: _, h => h.elim
  | _ :: _, [], h => h.elim
theorem VLs.grow {n n' : Cn} {H H' : Gh} (g : Grow n H n' H') {b ls v} (h : VLs c n.us H w b ls v) : VLs c n'.us H' w b ls v := by
  cases b with
  | true => obtain ⟨vs, rfl, h⟩ := h; exact ⟨vs, rfl, h.grow g⟩
  | false => exact LsRel.grow g h
theorem cnLs_ok (h : Rel c st G w tm) : ∀ (ls : List Lf) (vs : List Value) (id : Nat) (n : Cn) (H : Gh), CnInv st G w n H -> LsRel c st.us G w ls vs ->
    ∃ H', CnInv st G w (cnLs st.us id n ls).2 H' /\ Grow n H (cnLs st.us id n ls).2 H' /\ LsRel c (cnLs st.us id n ls).2.us H' w (cnLs st.us id n ls).1 vs
  | [], [], id, n, H, hi, _ => ⟨H, hi, .refl _ _, trivial⟩
  | l :: t, v :: vt, id, n, H, hi, hl => by
    obtain ⟨H1, a1, a2, a3⟩ := cnLf_ok h hi id hl.1.1
    obtain ⟨H2, b1, b2, b3⟩ := cnLs_ok h t vt (id + 1) _ H1 a1 hl.2
    exact ⟨H2, b1, a2.trans b2, ⟨a3.grow b2, hl.1.2⟩, b3⟩
  | [], _ :: _, _, _, _, _, h => h.elim
  | _ :: _, [], _, _, _, _, h => h.elim
def VOk (c : Cx) (n : Cn) (H : Gh) (w : World) (av : AV) (v : Value) : Prop := ∀ vs, VRel c n.us vs H w av v
theorem VOk.grow {n n' : Cn} {H H' : Gh} (g : Grow n H n' H') {x : AV} {v : Value} (hx : (∃ b ls, x = .v b ls) \/ (∃ e y o, x = .ptr (.ext e y o)) \/ x = .u) (h : VOk c n H w x v) : VOk c n' H' w x v := by
  intro vs
  rcases hx with ⟨b, ls, rfl⟩ | ⟨e, y, o, rfl⟩ | rfl
  · exact VLs.grow g (h vs)
  · exact h vs
  · trivial
theorem cnAV_ok (h : Rel c st G w tm) {n : Cn} {H : Gh} (hi : CnInv st G w n H) (id : Nat) {x : AV} {v : Value} (hx : VRel c st.us st.vs G w x v) :
    ∃ H', CnInv st G w (cnAV st.us id n x).2 H' /\ Grow n H (cnAV st.us id n x).2 H' /\
      ((∃ r o, x = .ptr (.var r o) /\ (cnAV st.us id n x).1 = x) \/ (((∃ b ls, (cnAV st.us id n x).1 = .v b ls) \/ (∃ e y o, (cnAV st.us id n x).1 = .ptr (.ext e y o)) \/ (cnAV st.us id n x).1 = .u) /\ VOk c (cnAV st.us id n x).2 H' w (cnAV st.us id n x).1 v)) := by
  cases x with
  | v g ls =>
    cases g with
    | true =>
      obtain ⟨vs, rfl, hl⟩ := hx
      obtain ⟨H', a1, a2, a3⟩ := cnLs_ok h ls vs id n H hi hl
      exact ⟨H', a1, a2, .inr ⟨.inl ⟨_, _, rfl⟩, fun _ => ⟨vs, rfl, a3⟩⟩⟩
    | false =>
      obtain ⟨H', a1, a2, a3⟩ := cnLs_ok h ls [v] id n H hi hx
      exact ⟨H', a1, a2, .inr ⟨.inl ⟨_, _, rfl⟩, fun _ => a3⟩⟩
  | ptr p =>
    cases p with
    | var r o => exact ⟨H, hi, .refl _ _, .inl ⟨r, o, rfl, rfl⟩⟩
    | ext e y o => exact ⟨H, hi, .refl _ _, .inr ⟨.inr (.inl ⟨_, _, _, rfl⟩), fun _ => hx⟩⟩
    | cells ls o => exact ⟨H, hi, .refl _ _, .inr ⟨.inr (.inr rfl), fun _ => trivial⟩⟩
    | elem k ep p e i off => exact ⟨H, hi, .refl _ _, .inr ⟨.inr (.inr rfl), fun _ => trivial⟩⟩
  | tup l => exact ⟨H, hi, .refl _ _, .inr ⟨.inr (.inr rfl), fun _ => trivial⟩⟩
  | u => exact ⟨H, hi, .refl _ _, .inr ⟨.inr (.inr rfl), fun _ => trivial⟩⟩
  | no => exact ⟨H, hi, .refl _ _, .inr ⟨.inr (.inr rfl), fun _ => trivial⟩⟩
def SlOk (c : Cx) (st : St) (n : Cn) (H : Gh) (w : World) (live : List Nat) (t : Nat) (av : AV) (v : Value) : Prop :=
  (∃ r o, av = .ptr (.var r o) /\ getA st.sl t = some av /\ t ∈ live) \/ (((∃ b ls, av = .v b ls) \/ (∃ e y o, av = .ptr (.ext e y o)) \/ av = .u) /\ VOk c n H w av v)
theorem cnSl_ok (h : Rel c st G w tm) : ∀ (live : List Nat) (n : Cn) (H : Gh), CnInv st G w n H ->
    ∃ H', CnInv st G w (cnSl st n live).2 H' /\ Grow n H (cnSl st n live).2 H' /\ ∀ t av, getA (cnSl st n live).1 t = some av -> SlOk c st (cnSl st n live).2 H' w live t av (tm t)
  | [], n, H, hi => ⟨H, hi, .refl _ _, fun _ _ h => by cases h⟩
  | t :: ts, n, H, hi => by
    simp only [cnSl]
    cases hv : getA st.sl t with
    | none =>
      obtain ⟨H', a1, a2, a3⟩ := cnSl_ok h ts n H hi
      refine ⟨H', a1, a2, fun t' av hg => ?_⟩
      rcases a3 t' av hg with ⟨r, o, q1, q2, q3⟩ | q
      · exact .inl ⟨r, o, q1, q2, List.mem_cons_of_mem _ q3⟩
      · exact .inr q
    | some x =>
      obtain ⟨H1, a1, a2, a3⟩ := cnAV_ok h hi (64 * (1000000 + t)) (h.slot t x hv)
      obtain ⟨H', b1, b2, b3⟩ := cnSl_ok h ts _ H1 a1
      refine ⟨H', b1, a2.trans b2, fun t' av hg => ?_⟩
      simp only [getA_cons] at hg
      split at hg
      · rename_i e
        subst e
        cases hg
        rcases a3 with ⟨r, o, q1, q2⟩ | ⟨q1, q2⟩
        · exact .inl ⟨r, o, by rw [q2, q1], by rw [hv, q2], List.mem_cons_self⟩
        · exact .inr ⟨q1, q2.grow b2 q1⟩
      · rcases b3 t' av hg with ⟨r, o, q1, q2, q3⟩ | q
        · exact .inl ⟨r, o, q1, q2, List.mem_cons_of_mem _ q3⟩
        · exact .inr q
end
end Go.Proofs.YtaflceohlijekaaGreat.Ev
namespace Go.Proofs.YtaflceohlijekaaGreat.Ev
section
variable {c : Cx} {st : St} {G : Gh} {w : World} {tm : Nat -> Value}
theorem cnVs_ok (h : Rel c st G w tm) : ∀ (live : List Nat) (n : Cn) (H : Gh), CnInv st G w n H ->
    ∃ H', CnInv st G w (cnVs st n live).2 H' /\ Grow n H (cnVs st n live).2 H' /\
      (∀ r ls', getA (cnVs st n live).1 r = some ls' -> ∃ ls vs, getA st.vs r = some ls /\ ls'.length = ls.length /\ LsRel c (cnVs st n live).2.us H' w ls' vs /\ (∀ j v, vs[j]? = some v -> cellAt w (G.va r).1 ((G.va r).2 + j) = some v) /\ ∀ j, j < ls.length -> w.frozen? ⟨(G.va r).1, (G.va r).2 + j, none⟩ = false) /\
      ∀ t r o, t ∈ live -> getA st.sl t = some (.ptr (.var r o)) -> ∃ ls', getA (cnVs st n live).1 r = some ls'
  | [], n, H, hi => ⟨H, hi, .refl _ _, fun _ _ h => (by cases h), fun _ _ _ h => (by cases h)⟩
  | t :: ts, n, H, hi => by
    simp only [cnVs]
    have skip : (∀ r o, getA st.sl t = some (.ptr (.var r o)) -> False) -> (∃ H', CnInv st G w (cnVs st n ts).2 H' /\ Grow n H (cnVs st n ts).2 H' /\
      (∀ r ls', getA (cnVs st n ts).1 r = some ls' -> ∃ ls vs, getA st.vs r = some ls /\ ls'.length = ls.length /\ LsRel c (cnVs st n ts).2.us H' w ls' vs /\ (∀ j v, vs[j]? = some v -> cellAt w (G.va r).1 ((G.va r).2 + j) = some v) /\ ∀ j, j < ls.length -> w.frozen? ⟨(G.va r).1, (G.va r).2 + j, none⟩ = false) /\
      ∀ t' r o, t' ∈ t :: ts -> getA st.sl t' = some (.ptr (.var r o)) -> ∃ ls', getA (cnVs st n ts).1 r = some ls') := by
      intro hno
      obtain ⟨H', a1, a2, a3, a4⟩ := cnVs_ok h ts n H hi
      refine ⟨H', a1, a2, a3, fun t' r o ht hs => ?_⟩
      cases ht with
      | head => exact (hno r o hs).elim
      | tail _ ht => exact a4 t' r o ht hs
    split
    · rename_i r o hs
      obtain ⟨ls0, hp, _⟩ := (show PtrRel c st.us st.vs G w (.var r o) (tm t) from h.slot t _ hs)
      rw [hp]
      simp only
      obtain ⟨vs, v1, v2, v3⟩ := h.var r ls0 hp
      obtain ⟨H1, a1, a2, a3⟩ := cnLs_ok h ls0 vs (64 * (2000000 + r)) n H hi v1
      obtain ⟨H', b1, b2, b3, b4⟩ := cnVs_ok h ts _ H1 a1
      refine ⟨H', b1, a2.trans b2, fun r' ls' hg => ?_, fun t' r' o' ht hs' => ?_⟩
      · rw [getA_cons] at hg
        split at hg
        · rename_i e
          subst e
          cases hg
          exact ⟨ls0, vs, hp, by rw [<- a3.length, v1.length], a3.grow b2, v2, v3⟩
        · exact b3 r' ls' hg
      · rw [getA_cons]
        split
        · exact ⟨_, rfl⟩
        · rename_i hne
          cases ht with
          | head => rw [hs] at hs'; cases hs'; exact absurd rfl hne
          | tail _ ht => exact b4 t' r' o' ht hs'
    · rename_i hno
      exact skip (fun r o hs => hno r o hs)
theorem Rel.canon (h : Rel c st G w tm) (live : List Nat) : ∃ G', Rel c (canon live st) G' w tm := by
  have hi0 : CnInv st G w ⟨[], []⟩ G := ⟨fun _ _ h => (by cases h), fun _ _ h => absurd rfl h, fun _ _ h => absurd rfl h, fun _ _ h => (by cases h), rfl⟩
  obtain ⟨H1, a1, a2, a3, b4⟩ := cnVs_ok h live ⟨[], []⟩ G hi0
  obtain ⟨H', b1, b2, b5⟩ := cnSl_ok h live _ H1 a1
  have hva : H'.va = G.va := b1.va
  have b3 : ∀ r ls', getA (cnVs st ⟨[], []⟩ live).1 r = some ls' -> ∃ ls vs, getA st.vs r = some ls /\ ls'.length = ls.length /\ LsRel c (cnSl st (cnVs st ⟨[], []⟩ live).2 live).2.us H' w ls' vs /\ (∀ j v, vs[j]? = some v -> cellAt w (G.va r).1 ((G.va r).2 + j) = some v) /\ ∀ j, j < ls.length -> w.frozen? ⟨(G.va r).1, (G.va r).2 + j, none⟩ = false := by
    intro r ls' hr
    obtain ⟨ls, vs, q1, q2, q3, q4, q5⟩ := a3 r ls' hr
    exact ⟨ls, vs, q1, q2, q3.grow b2, q4, q5⟩
  refine ⟨H', ⟨h.kept, fun k ep e xs hk => ?_, fun k ep e xs hk b hb => ?_, fun r ls hr => ?_, fun r ls hr => ?_, fun r ls hr j hj => ?_, fun k1 k2 ep1 e1 xs1 ep2 e2 xs2 h1 h2 hne => b1.dj k1 k2 (ne_none h1) (ne_none h2) hne, fun k ep e xs r ls hk hr hb => ?_, fun r1 r2 l1 l2 h1 h2 hne j1 j2 hj1 hj2 => ?_, fun t v hv => ?_, h.pin⟩⟩
  · obtain ⟨e', xs', q1, q2⟩ := b1.own k _ hk
    cases q1
    exact q2
  · obtain ⟨k', ep', e', xs', _, p2, p3⟩ := b1.src k b (ne_none hk) hb
    exact h.fUnit k' _ _ _ p2 b p3
  · obtain ⟨ls0, vs, q1, q2, q3, q4, q5⟩ := b3 r ls hr
    rw [hva]
    exact ⟨vs, q3, q4, fun j hj => q5 j (by omega)⟩
  · obtain ⟨ls0, vs, q1, _⟩ := b3 r ls hr
    rw [hva]
    exact h.vLt r ls0 q1
  · obtain ⟨ls0, vs, q1, q2, _⟩ := b3 r ls hr
    rw [hva]
    exact h.fVar r ls0 q1 j (by omega)
  · obtain ⟨k', ep', e', xs', _, p2, p3⟩ := b1.src k _ (ne_none hk) hb
    obtain ⟨ls0, vs, q1, _⟩ := b3 r ls hr
    rw [hva] at p3
    exact h.dUV k' _ _ _ r ls0 p2 q1 p3
  · obtain ⟨m1, _, q1, q2, _⟩ := b3 r1 l1 h1
    obtain ⟨m2, _, q3, q4, _⟩ := b3 r2 l2 h2
    rw [hva]
    exact h.dVV r1 r2 m1 m2 q1 q3 hne j1 j2 (by omega) (by omega)
  · rcases b5 t v hv with ⟨r, o, rfl, q2, q3⟩ | ⟨q1, q2⟩
    · obtain ⟨ls', hls⟩ := b4 t r o q3 q2
      obtain ⟨ls0, _, hp⟩ := (show PtrRel c st.us st.vs G w (.var r o) (tm t) from h.slot t _ q2)
      exact ⟨ls', hls, by rw [hp, hva]⟩
    · exact q2 _
end
end Go.Proofs.YtaflceohlijekaaGreat.Ev
namespace Go.Proofs.YtaflceohlijekaaGreat.Ev
section
variable {E : Env} {R : Type} {call : E.Call} {k : Eff -> Option R} {r : R} {p : Plan E} {e : Eff} {us us' : List (Nat × UE)} {st st' : St} {o : Oper}
def Gives (call : E.Call) : Plan E -> Eff -> Prop
  | .alts l, e => ∃ l1 l2, l = l1 ++ (true, e) :: l2 /\ ∀ q ∈ l1, q.1 = false
  | .call f x mk, e => ∃ r, call f x = some r /\ mk r = some e
theorem runAlts_gives : ∀ {l : List (Bool × Eff)}, runAlts k l = some r -> ∃ e, (∃ l1 l2, l = l1 ++ (true, e) :: l2 /\ ∀ q ∈ l1, q.1 = false) /\ k e = some r
  | [], h => by cases h
  | (b, e) :: t, h => by
    cases b with
    | true => exact ⟨e, ⟨[], t, rfl, fun q hq => by cases hq⟩, h⟩
    | false =>
      obtain ⟨e', ⟨l1, l2, rfl, h1⟩, h2⟩ := runAlts_gives (l := t) h
      exact ⟨e', ⟨(false, e) :: l1, l2, rfl, fun q hq => by
        cases hq with
        | head => rfl
        | tail _ hq => exact h1 q hq⟩, h2⟩
theorem gives_of_run (h : runPlan E call k p = some r) : ∃ e, Gives call p e /\ k e = some r := by
  cases p with
  | alts l => exact runAlts_gives h
  | call f x mk =>
    simp only [runPlan] at h
    split at h
    · rename_i z hz
      split at h
      · rename_i e he
        exact ⟨e, ⟨z, hz, he⟩, h⟩
      · cases h
    · cases h
theorem runAlts_skip : ∀ {l1 l2 : List (Bool × Eff)}, (∀ q ∈ l1, q.1 = false) -> runAlts k (l1 ++ (true, e) :: l2) = k e
  | [], _, _ => rfl
  | (b, e') :: t, l2, h => by
    have := h (b, e') (List.mem_cons_self)
    simp only at this
    subst this
    exact runAlts_skip (l1 := t) (fun q hq => h q (List.mem_cons_of_mem _ hq))
theorem run_of_gives (h : Gives call p e) (hk : k e = some r) : runPlan E call k p = some r := by
  cases p with
  | alts l =>
    obtain ⟨l1, l2, rfl, h1⟩ := h
    simp only [runPlan]
    rw [runAlts_skip h1]
    exact hk
  | call f x mk =>
    obtain ⟨z, h1, h2⟩ := h
    simp only [runPlan, h1, h2]
    exact hk
theorem gives_one {b : Bool} {e0 : Eff} (h : Gives call (.alts [(b, e0)]) e) : b = true /\ e = e0 := by
  obtain ⟨l1, l2, h1, h2⟩ := h
  cases l1 with
  | nil =>
    simp only [List.nil_append, List.cons.injEq, Prod.mk.injEq] at h1
    exact ⟨h1.1.1, h1.1.2.symm⟩
  | cons a l1 =>
    simp only [List.cons_append, List.cons.injEq] at h1
    have := h1.2
    simp at this
def ASub {α : Type} (l l' : List (Nat × α)) : Prop := ∀ k v, getA l k = some v -> getA l' k = some v
theorem ASub.app {α : Type} {l l' : List (Nat × α)} (h : ASub l l') (t : List (Nat × α)) : ASub (t ++ l) (t ++ l') := by
  intro k v hk
  rw [getA_append] at hk ⊢
  split
  · rename_i w hw; rw [hw] at hk; exact hk
  · rename_i hw; rw [hw] at hk; exact h k v hk
theorem content_mono (h : ASub us us') {k ep p e xs} (hc : content us k ep p e = some xs) : content us' k ep p e = some xs := by
  unfold content at hc ⊢
  split at hc
  · rename_i ep0 e0 xs0 hk
    rw [h _ _ hk]; exact hc
  · cases hc
theorem epOf_mono (h : ASub us us') {k ep p e xs} (hc : content us k ep p e = some xs) : epOf us' k = epOf us k := by
  unfold content at hc
  split at hc
  · rename_i ep0 e0 xs0 hk
    unfold epOf
    rw [h _ _ hk, hk]
  · cases hc
theorem matLf_mono (h : ASub us us') {l : Lf} {s : Sh} {x : s.T} (hm : matLf us l s = some x) : matLf us' l s = some x := by
  unfold matLf at hm
  split at hm
  · exact hm
  · exact hm
  · exact hm
  · exact hm
  · exact content_mono h hm
  · split at hm
    · rename_i hc
      simp only [matLf, content_mono h hc]
      exact hm
    · cases hm
  · exact hm
  · cases hm
theorem unflat_mono (h : ASub us us') : ∀ (s : Sh) (l : List Lf) (r), unflat us s l = some r -> unflat us' s l = some r
  | .unit, l, r, hr => hr
  | .pair a b, l, r, hr => by
    simp only [unflat] at hr ⊢
    split at hr
    · rename_i x l1 h1
      rw [unflat_mono h a _ _ h1]
      dsimp only
      split at hr
      · rename_i y l2 h2
        rw [unflat_mono h b _ _ h2]; exact hr
      · cases hr
    · cases hr
  | .int k, l, r, hr => by
    simp only [unflat] at hr ⊢
    split at hr
    · split at hr
      · rename_i x hx; rw [matLf_mono h hx]; exact hr
      · cases hr
    · cases hr
  | .bool, l, r, hr => by
    simp only [unflat] at hr ⊢
    split at hr
    · split at hr
      · rename_i x hx; rw [matLf_mono h hx]; exact hr
      · cases hr
    · cases hr
  | .str, l, r, hr => by
    simp only [unflat] at hr ⊢
    split at hr
    · split at hr
      · rename_i x hx; rw [matLf_mono h hx]; exact hr
      · cases hr
    · cases hr
  | .sl e, l, r, hr => by
    simp only [unflat] at hr ⊢
    split at hr
    · split at hr
      · rename_i x hx; rw [matLf_mono h hx]; exact hr
      · cases hr
    · cases hr
theorem giveLf_mono (h : ASub us us') {l : Lf} {s : Sh} {r} (hm : giveLf us l s = some r) : giveLf us' l s = some r := by
  unfold giveLf at hm
  split at hm
  · exact hm
  · exact hm
  · exact hm
  · exact hm
  · split at hm
    · rename_i hk
      simp only [giveLf, h _ _ hk]; exact hm
    · cases hm
  · split at hm
    · rename_i hk
      simp only [giveLf, h _ _ hk]; exact hm
    · cases hm
  · cases hm
theorem give_mono : ∀ (s : Sh) {us us' : List (Nat × UE)} (h : ASub us us') (l : List Lf) (r), give us s l = some r -> give us' s l = some r
  | .unit, _, _, _, l, r, hr => hr
  | .pair a b, us, us', h, l, r, hr => by
    simp only [give] at hr ⊢
    split at hr
    · rename_i x u1 l1 h1
      rw [give_mono a h _ _ h1]
      dsimp only
      split at hr
      · rename_i y u2 l2 h2
        rw [give_mono b (h.app u1) _ _ h2]; exact hr
      · cases hr
    · cases hr
  | .int k, _, _, h, l, r, hr => by
    simp only [give] at hr ⊢
    split at hr
    · split at hr
      · rename_i hx; rw [giveLf_mono h hx]; exact hr
      · cases hr
    · cases hr
  | .bool, _, _, h, l, r, hr => by
    simp only [give] at hr ⊢
    split at hr
    · split at hr
      · rename_i hx; rw [giveLf_mono h hx]; exact hr
      · cases hr
    · cases hr
  | .str, _, _, h, l, r, hr => by
    simp only [give] at hr ⊢
    split at hr
    · split at hr
      · rename_i hx; rw [giveLf_mono h hx]; exact hr
      · cases hr
    · cases hr
  | .sl e, _, _, h, l, r, hr => by
    simp only [give] at hr ⊢
    split at hr
    · split at hr
      · rename_i hx; rw [giveLf_mono h hx]; exact hr
      · cases hr
    · cases hr
theorem readP_mono (hu : ASub st.us st'.us) (hv : ASub st.vs st'.vs) {n : Nat} {p : Ptr} {ls} (h : readP st n p = some ls) : readP st' n p = some ls := by
  cases p with
  | var r off =>
    simp only [readP] at h ⊢
    split at h
    · rename_i l hl; rw [hv _ _ hl]; exact h
    · cases h
  | elem k ep p e i off =>
    simp only [readP] at h ⊢
    split at h
    · rename_i xs hc
      rw [content_mono hu hc, epOf_mono hu hc]; exact h
    · cases h
  | ext e x off => exact h
  | cells l off => exact h
theorem ptrOk_mono (hu : ASub st.us st'.us) {p : Ptr} (h : ptrOk st p = true) : ptrOk st' p = true := by
  cases p with
  | elem k ep p e i off =>
    simp only [ptrOk, Option.isSome_iff_exists] at h ⊢
    obtain ⟨xs, hc⟩ := h
    exact ⟨xs, content_mono hu hc⟩
  | _ => rfl
theorem lenOf_mono (hu : ASub st.us st'.us) {ti : TyI} {a : AV} {n : Nat} (h : lenOf st ti a = some n) : lenOf st' ti a = some n := by
  unfold lenOf at h
  split at h
  · exact h
  · exact h
  · simp only [lenOf]
    cases hb : ti.isSlice with
    | false => rw [hb] at h; cases h
    | true =>
      rw [hb] at h
      simp only [cond_true] at h ⊢
      split at h
      · rename_i hc; rw [content_mono hu hc]; exact h
      · cases h
  · simp only [lenOf]
    cases hb : ti.isSlice with
    | false => rw [hb] at h; cases h
    | true =>
      rw [hb] at h
      simp only [cond_true] at h ⊢
      split at h
      · rename_i hc; rw [content_mono hu hc]; exact h
      · cases h
  · exact h
  · cases h
theorem atUnit_mono (hu : ASub st.us st'.us) {k ep p e r} (h : atUnit st k ep p e = some r) : atUnit st' k ep p e = some r := by
  unfold atUnit at h ⊢
  split at h
  · rename_i hk; rw [hu _ _ hk]; exact h
  · cases h
theorem freshU_of {new : List (Nat × UE)} (h : ∀ q, getA new q ≠ none -> getA us q = none) : freshU us new = true := by
  unfold freshU
  rw [List.all_eq_true]
  intro q hq
  rw [h q.1, Option.isNone_none]
  have : ∀ (l : List (Nat × UE)), q ∈ l -> getA l q.1 ≠ none := by
    intro l
    induction l with
    | nil => intro h; cases h
    | cons a t ih =>
      intro hm
      obtain ⟨k, v⟩ := a
      rw [getA_cons]
      split
      · exact fun h => by cases h
      · rename_i hne
        cases hm with
        | head => exact absurd rfl hne
        | tail _ hm => exact ih hm
  exact this new hq
abbrev Same (st st' : St) (x : Operand) : Prop := ∀ t, x = .tmp t -> getA st'.sl t = getA st.sl t
theorem operand_same {x : Operand} (h : Same st st' x) : operand st' x = operand st x := by
  cases x with
  | tmp t => exact h t rfl
  | const c => cases c <;> rfl
  | _ => rfl
theorem operandT_same {x : Operand} {t : Nat} (h : Same st st' x) : operandT E st' t x = operandT E st t x := by
  have ho := operand_same h
  unfold operandT
  split
  · rfl
  · exact ho
theorem cutB_same {n : Nat} {lo hi : Option Operand} (h1 : ∀ x, lo = some x -> Same st st' x) (h2 : ∀ x, hi = some x -> Same st st' x) : cutB st' n lo hi = cutB st n lo hi := by
  have e1 : ∀ x, lo = some x -> operand st' x = operand st x := fun x hx => operand_same (h1 x hx)
  have e2 : ∀ x, hi = some x -> operand st' x = operand st x := fun x hx => operand_same (h2 x hx)
  unfold cutB
  cases lo with
  | none =>
    cases hi with
    | none => rfl
    | some y => simp only [e2 y rfl]
  | some x =>
    cases hi with
    | none => simp only [e1 x rfl]
    | some y => simp only [e1 x rfl, e2 y rfl]
theorem buildLs_same {parts : List (Nat × Operand)} (h : ∀ q ∈ parts, Same st st' q.2) : ∀ (fs : List (Nat × Nat)) (i : Nat) (tys : List TyI), buildLs E st' fs parts i tys = buildLs E st fs parts i tys
  | [], i, tys => rfl
  | (_, t) :: fs, i, tys => by
    simp only [buildLs]
    rw [buildLs_same h fs (i + 1) tys]
    split
    · rfl
    · split
      · rfl
      · rename_i x hf
        rw [operandT_same (h _ (List.mem_of_find?_eq_some hf))]
theorem litXs_mono {e : Sh} {te : Nat} : ∀ (parts : List (Nat × Operand)) {us us' : List (Nat × UE)} (hu : ASub us us') (i : Nat) (r), (∀ q ∈ parts, Same st st' q.2) -> litXs E us st e te parts i = some r -> litXs E us' st' e te parts i = some r
  | [], _, _, _, i, r, _, h => h
  | (j, x) :: t, us, us', hu, i, r, hs, h => by
    simp only [litXs] at h ⊢
    split at h
    · rename_i hj
      rw [if_pos hj, operandT_same (hs _ (List.mem_cons_self))]
      split at h
      · rename_i ls hx
        split at h
        · rename_i v u1 hg
          rw [hx]
          dsimp only
          rw [give_mono e hu _ _ hg]
          dsimp only
          split at h
          · rename_i hl
            rw [litXs_mono t (hu.app u1) (i + 1) _ (fun q hq => hs q (List.mem_cons_of_mem _ hq)) hl]
            exact h
          · cases h
        · cases h
      · cases h
    · cases h
theorem argAV_same : ∀ (xs : List Operand) (ts : List Nat), (∀ x ∈ xs, Same st st' x) -> argAV E st' xs ts = argAV E st xs ts
  | [], ts, _ => by cases ts <;> rfl
  | x :: xs, [], _ => rfl
  | x :: xs, t :: ts, h => by
    simp only [argAV]
    rw [operandT_same (h x (List.mem_cons_self)), argAV_same xs ts (fun y hy => h y (List.mem_cons_of_mem _ hy))]
end
end Go.Proofs.YtaflceohlijekaaGreat.Ev
namespace Go.Proofs.YtaflceohlijekaaGreat.Ev
section
variable {E : Env} {R : Type} {call : E.Call} {k : Eff -> Option R} {r : R} {p : Plan E} {e : Eff} {us us' : List (Nat × UE)} {st st' : St} {o : Oper}
def NewU (st st' : St) (nu : List (Nat × UE)) : Prop := ∀ q, getA nu q ≠ none -> getA st.us q = none -> getA st'.us q = none
def NewV (st st' : St) (nv : List (Nat × List Lf)) : Prop := ∀ q, getA nv q ≠ none -> getA st.vs q = none -> getA st'.vs q = none
theorem getA_app_ne {α : Type} {l t : List (Nat × α)} {q : Nat} (h : getA l q ≠ none \/ getA t q ≠ none) : getA (l ++ t) q ≠ none := by
  rw [getA_append]
  split
  · exact fun h => by cases h
  · rename_i hn
    exact h.resolve_left (fun h => h hn)
theorem freshU_sub {new nu : List (Nat × UE)} (h : freshU st.us new = true) (hn : NewU st st' nu) (hs : ∀ q, getA new q ≠ none -> getA nu q ≠ none) : freshU st'.us new = true :=
  freshU_of fun q hq => hn q (hs q hq) (freshU_none h q hq)
def LentSub (st st' : St) (l l' : Lent) : Prop := l'.ls = l.ls /\ l'.lock = l.lock /\ l'.lockV = l.lockV /\ ∀ out k nv nu, l.back out k = some (nv, nu) -> NewU st st' nu -> l'.back out k = some (nv, nu)
theorem lend_mono (hu : ASub st.us st'.us) (hv : ASub st.vs st'.vs) {q : Par} {a : Option AV} {l : Lent} (h : lend st q a = some l) : ∃ l', lend st' q a = some l' /\ LentSub st st' l l' := by
  unfold lend at h
  split at h
  · rename_i s r off
    split at h
    · rename_i cs hcs
      split at h
      · rename_i hle
        split at h
        · rename_i x nu hg
          cases h
          refine ⟨⟨flat s x, nu, [(r, [])], fun out k => let o := ownify out k; match freshU st'.us o.2 with | true => if out.length = s.n then some ([(r, setRange off cs o.1)], o.2) else none | false => none⟩, by simp only [lend, hv _ _ hcs, if_pos hle, give_mono s hu _ _ hg]; rfl, rfl, rfl, rfl, fun out k nv nu' hb hn => ?_⟩
          dsimp only at hb ⊢
          split at hb
          · rename_i hf
            split at hb
            · rename_i hlen
              cases hb
              rw [freshU_sub hf hn (fun q hq => hq)]
              simp only [hlen, if_true]
            · cases hb
          · cases hb
        · cases h
      · cases h
    · cases h
  · rename_i s k ep p e i off
    split at h
    · rename_i ep0 e0 xs0 xs ha
      split at h
      · rename_i x hx
        cases h
        exact ⟨_, by simp only [lend, atUnit_mono hu ha, hx], rfl, rfl, rfl, fun out k nv nu' hb hn => hb⟩
      · cases h
    · cases h
  · rename_i e k ep p e'
    split at h
    · rename_i ep0 e0 xs0 xs ha
      cases h
      exact ⟨_, by simp only [lend, atUnit_mono hu ha], rfl, rfl, rfl, fun out k nv nu' hb hn => hb⟩
    · cases h
  · rename_i s o e r off
    split at h
    · rename_i cs hcs
      split at h
      · rename_i hle
        split at h
        · rename_i k ep p e1 hc
          split at h
          · rename_i ep0 e0 xs0 xs ha
            cases h
            exact ⟨_, by simp only [lend, hv _ _ hcs, if_pos hle, hc, atUnit_mono hu ha], rfl, rfl, rfl, fun out k nv nu' hb hn => hb⟩
          · cases h
        · cases h
      · cases h
    · cases h
  · cases h
    exact ⟨_, rfl, rfl, rfl, rfl, fun out k nv nu' hb hn => hb⟩
  · cases h
theorem lentOf_mono (hu : ASub st.us st'.us) (hv : ASub st.vs st'.vs) : ∀ (ps : List Par) (as : List (Option AV)) (l : Option Lent), lentOf st ps as = some l ->
    ∃ l', lentOf st' ps as = some l' /\ ((l = none /\ l' = none) \/ ∃ x x', l = some x /\ l' = some x' /\ LentSub st st' x x')
  | [], as, l, h => by
    simp only [lentOf, Option.some.injEq] at h
    subst h
    exact ⟨none, rfl, .inl ⟨rfl, rfl⟩⟩
  | q :: ps, [], l, h => by cases q <;> cases h
  | .val _ _ :: ps, a :: as, l, h => lentOf_mono hu hv ps as l h
  | .ro _ :: ps, a :: as, l, h => lentOf_mono hu hv ps as l h
  | .mut s :: ps, a :: as, l, h => by
    simp only [lentOf] at h
    split at h
    · rename_i x hx
      cases h
      obtain ⟨x', h1, h2⟩ := lend_mono hu hv hx
      exact ⟨some x', by simp only [lentOf, h1], .inr ⟨x, x', rfl, rfl, h2⟩⟩
    · cases h
  | .fld s o e :: ps, a :: as, l, h => by
    simp only [lentOf] at h
    split at h
    · rename_i x hx
      cases h
      obtain ⟨x', h1, h2⟩ := lend_mono hu hv hx
      exact ⟨some x', by simp only [lentOf, h1], .inr ⟨x, x', rfl, rfl, h2⟩⟩
    · cases h
  | .muts s :: ps, a :: as, l, h => by
    simp only [lentOf] at h
    split at h
    · rename_i x hx
      cases h
      obtain ⟨x', h1, h2⟩ := lend_mono hu hv hx
      exact ⟨some x', by simp only [lentOf, h1], .inr ⟨x, x', rfl, rfl, h2⟩⟩
    · cases h
theorem callArgs_mono (hu : ASub st.us st'.us) (hv : ASub st.vs st'.vs) (lls : List Lf) : ∀ (ps : List Par) (as : List (Option AV)) (ls : List Lf), callArgs st lls ps as = some ls -> callArgs st' lls ps as = some ls
  | [], [], ls, h => h
  | [], _ :: _, ls, h => by cases h
  | .val g s :: ps, [], ls, h => by cases h
  | .val g s :: ps, none :: as, ls, h => by cases h
  | .val g s :: ps, some (.v g' l) :: as, ls, h => by
    simp only [callArgs] at h ⊢
    split at h
    · rename_i hc
      rw [if_pos hc]
      split at h
      · rename_i hr; rw [callArgs_mono hu hv lls ps as _ hr]; exact h
      · cases h
    · cases h
  | .val g s :: ps, some (.ptr p) :: as, ls, h => by cases h
  | .val g s :: ps, some (.tup p) :: as, ls, h => by cases h
  | .val g s :: ps, some .u :: as, ls, h => by cases h
  | .ro s :: ps, [], ls, h => by cases h
  | .ro s :: ps, none :: as, ls, h => by cases h
  | .ro s :: ps, some (.v g' l) :: as, ls, h => by cases h
  | .ro s :: ps, some (.tup p) :: as, ls, h => by cases h
  | .ro s :: ps, some .u :: as, ls, h => by cases h
  | .ro s :: ps, some (.ptr p) :: as, ls, h => by
    simp only [callArgs] at h ⊢
    split at h
    · rename_i l hp
      rw [readP_mono hu hv hp]
      dsimp only
      split at h
      · rename_i hc
        rw [if_pos hc]
        split at h
        · rename_i hr; rw [callArgs_mono hu hv lls ps as _ hr]; exact h
        · cases h
      · cases h
    · cases h
  | .mut s :: ps, [], ls, h => by cases h
  | .mut s :: ps, a :: as, ls, h => by
    simp only [callArgs] at h ⊢
    split at h
    · rename_i hr; rw [callArgs_mono hu hv lls ps as _ hr]; exact h
    · cases h
  | .fld s o e :: ps, [], ls, h => by cases h
  | .fld s o e :: ps, a :: as, ls, h => by
    simp only [callArgs] at h ⊢
    split at h
    · rename_i hr; rw [callArgs_mono hu hv lls ps as _ hr]; exact h
    · cases h
  | .muts s :: ps, [], ls, h => by cases h
  | .muts s :: ps, a :: as, ls, h => by
    simp only [callArgs] at h ⊢
    split at h
    · rename_i hr; rw [callArgs_mono hu hv lls ps as _ hr]; exact h
    · cases h
theorem preCall_mono (hu : ASub st.us st'.us) (hv : ASub st.vs st'.vs) {d f : Nat} {args : List Operand} {ts : List Nat} (hs : ∀ x ∈ args, Same st st' x) (h : preCall E st d f args ts = some p) (hg : Gives call p e) (hn : NewU st st' e.nu) :
    ∃ p', preCall E st' d f args ts = some p' /\ Gives call p' e := by
  unfold preCall at h
  split at h
  · rename_i lent hone hlent
    dsimp only at h
    split at h
    · rename_i ls hca
      split at h
      · rename_i x hux
        cases h
        obtain ⟨z, hz, hmk⟩ := hg
        obtain ⟨lent', hl', hrel⟩ := lentOf_mono hu hv _ _ _ hlent
        unfold preCall
        rw [argAV_same args ts hs, hone, hl']
        dsimp only
        rcases hrel with ⟨rfl, rfl⟩ | ⟨l, l', rfl, rfl, q1, q2, q3, q4⟩
        · dsimp only at hca hux hmk ⊢
          rw [callArgs_mono (st' := { sl := st'.sl, vs := [] ++ st'.vs, us := [] ++ st'.us }) (hu.app []) (hv.app []) _ _ _ _ hca]
          dsimp only
          rw [unflat_mono (hu.app []) _ _ _ hux]
          refine ⟨_, rfl, z, hz, ?_⟩
          dsimp only
          split at hmk
          · rename_i hf _
            cases hmk
            rw [freshU_sub hf hn (fun q hq => hq)]
          · rename_i heq; cases heq
          · cases hmk
        · dsimp only at hca hux hmk ⊢
          rw [q1, q2, q3]
          rw [callArgs_mono (st' := { sl := st'.sl, vs := l.lockV ++ st'.vs, us := l.lock ++ st'.us }) (hu.app _) (hv.app _) _ _ _ _ hca]
          dsimp only
          rw [unflat_mono (hu.app _) _ _ _ hux]
          refine ⟨_, rfl, z, hz, ?_⟩
          dsimp only
          split at hmk
          · rename_i heq; cases heq
          · rename_i l2 hf heq
            cases heq
            split at hmk
            · rename_i nv nu hb
              have hff := hmk
              cases hfr : freshU (ownify ((flat (E.sig f).R z).take (nRes (E.sig f).rs)) (64 * d)).2 nu with
              | false => rw [hfr] at hmk; cases hmk
              | true =>
                rw [hfr] at hmk
                simp only [cond_true, Option.some.injEq] at hmk
                subst hmk
                rw [freshU_sub hf hn (fun q hq => getA_app_ne (.inr (getA_app_ne (.inl hq))))]
                dsimp only
                rw [q4 _ _ _ _ hb (fun q hq => hn q (getA_app_ne (.inl hq)))]
                dsimp only
                rw [hfr]
                rfl
            · cases hmk
          · cases hmk
      · cases h
    · cases h
  · cases h
theorem preAppend_mono (hu : ASub st.us st'.us) {d t : Nat} {x y : Operand} (hx : Same st st' x) (hy : Same st st' y) (h : preAppend E st d t x y = some p) (hg : Gives call p e) (hn : NewU st st' e.nu) :
    ∃ p', preAppend E st' d t x y = some p' /\ Gives call p' e := by
  unfold preAppend at h
  split at h
  · rename_i te a b h1 h2 h3 h4
    dsimp only at h
    split at h
    · rename_i xs u1 hxs
      split at h
      · rename_i hdeep
        split at h
        · rename_i ys hys
          cases h
          obtain ⟨hb, rfl⟩ := gives_one hg
          have hf : getA st'.us (64 * d) = none := hn _ (by simp [getA_cons]) h4
          refine ⟨_, ?_, hg⟩
          unfold preAppend
          rw [operandT_same hx, operandT_same hy, h1, h2, h3, hf]
          dsimp only
          rw [giveLf_mono hu hxs, hdeep]
          dsimp only
          rw [matLf_mono (hu.app _) hys]
        · cases h
      · rename_i hdeep
        split at h
        · rename_i ys u2 hys
          cases h
          obtain ⟨hb, rfl⟩ := gives_one hg
          have hf : getA st'.us (64 * d) = none := hn _ (by simp [getA_cons]) h4
          refine ⟨_, ?_, hg⟩
          unfold preAppend
          rw [operandT_same hx, operandT_same hy, h1, h2, h3, hf]
          dsimp only
          rw [giveLf_mono hu hxs, hdeep]
          dsimp only
          rw [giveLf_mono (hu.app _) hys]
        · cases h
    · cases h
  · cases h
end
end Go.Proofs.YtaflceohlijekaaGreat.Ev
namespace Go.Proofs.YtaflceohlijekaaGreat.Ev
section
variable {E : Env} {R : Type} {call : E.Call} {k : Eff -> Option R} {r : R} {p : Plan E} {e : Eff} {us us' : List (Nat × UE)} {st st' : St} {o : Oper}
def Ptr.noElem : Ptr -> Bool | .elem .. => false | _ => true
theorem noUs_ptr {x : Operand} {q : Ptr} (h : (match operand st x with | some (.ptr (.var _ _)) => true | some (.ptr (.ext ..)) => true | _ => false) = true) (hx : operand st x = some (.ptr q)) : q.noElem = true := by
  rw [hx] at h
  cases q <;> first | rfl | cases h
theorem readP_mono2 {q : Ptr} (hu : q.noElem = true \/ ASub st.us st'.us) (hv : ASub st.vs st'.vs) {n : Nat} {ls} (h : readP st n q = some ls) : readP st' n q = some ls := by
  rcases hu with hu | hu
  · cases q with
    | elem => cases hu
    | ext => exact h
    | cells => exact h
    | var r off =>
      simp only [readP] at h ⊢
      split at h
      · rename_i l hl; rw [hv _ _ hl]; exact h
      · cases h
  · exact readP_mono hu hv h
theorem ptrOk_mono2 {q : Ptr} (hu : q.noElem = true \/ ASub st.us st'.us) (h : ptrOk st q = true) : ptrOk st' q = true := by
  rcases hu with hu | hu
  · cases q with
    | elem => cases hu
    | _ => rfl
  · exact ptrOk_mono hu h
theorem preStore_mono (hu : ASub st.us st'.us) (hv : ASub st.vs st'.vs) {t : Nat} {a x : Operand} (ha : Same st st' a) (hx : Same st st' x) (h : preStore E st t a x = some p) : preStore E st' t a x = some p := by
  unfold preStore at h ⊢
  rw [operand_same ha, operandT_same hx]
  split at h
  · rename_i q g ls h1 h2
    split at h
    · rename_i hlen
      try dsimp only
      try rw [h1, h2]
      try dsimp only
      rw [if_pos hlen]
      cases q with
      | var r off =>
        dsimp only at h ⊢
        split at h
        · rename_i cs hcs; rw [hv _ _ hcs]; exact h
        · cases h
      | elem k ep p e i off =>
        dsimp only at h ⊢
        split at h
        · rename_i ep0 e0 xs0 xs hat
          rw [atUnit_mono hu hat]
          dsimp only
          split at h
          · rename_i y nu hg
            rw [give_mono (us' := (k, .gone) :: st'.us) _ (hu.app [(k, .gone)]) _ _ hg]
            exact h
          · cases h
        · cases h
      | ext => cases h
      | cells => cases h
    · cases h
  · cases h
theorem preIndexAddr_mono (hu : ASub st.us st'.us) {t : Nat} {x i : Operand} (hx : Same st st' x) (hi : Same st st' i) (h : preIndexAddr E st t x i = some p) : preIndexAddr E st' t x i = some p := by
  unfold preIndexAddr at h ⊢
  rw [operand_same hx, operand_same hi]
  split at h
  · rename_i h1 h2 h3
    try simp only [h1, h2, h3]
    exact h
  · rename_i h1 h2 h3
    try simp only [h1, h2, h3]
    split at h
    · rename_i hn
      rw [if_pos hn]
      split at h
      · rename_i hc; rw [content_mono hu hc]; exact h
      · cases h
    · cases h
  · rename_i h1 h2 h3
    try simp only [h1, h2, h3]
    split at h
    · rename_i hn
      rw [if_pos hn]
      split at h
      · rename_i hc; rw [content_mono hu hc]; exact h
      · cases h
    · cases h
  · rename_i h1 h2 h3
    try simp only [h1, h2, h3]
    exact h
  · cases h
theorem preSlice_mono (hu : ASub st.us st'.us) {t : Nat} {x : Operand} {lo hi mx : Option Operand} (hx : Same st st' x) (h1 : ∀ x, lo = some x -> Same st st' x) (h2 : ∀ x, hi = some x -> Same st st' x) (h : preSlice E st t x lo hi mx = some p) : preSlice E st' t x lo hi mx = some p := by
  have hc : ∀ n, cutB st' n lo hi = cutB st n lo hi := fun n => cutB_same h1 h2
  unfold preSlice at h ⊢
  rw [operand_same hx]
  split at h
  · rename_i a1 a2
    try simp only [a1, a2]
    try simp only [hc]
    exact h
  · rename_i a1 a2
    try simp only [a1, a2]
    try simp only [hc]
    exact h
  · rename_i a1 a2
    try simp only [a1, a2]
    split at h
    · rename_i hn
      rw [if_pos hn]
      split at h
      · rename_i q; rw [content_mono hu q]; simp only [hc]; exact h
      · cases h
    · cases h
  · rename_i a1 a2
    try simp only [a1, a2]
    split at h
    · rename_i hn
      rw [if_pos hn]
      split at h
      · rename_i q; rw [content_mono hu q]; simp only [hc]; exact h
      · cases h
    · cases h
  · cases h
theorem preCopy_mono (hu : ASub st.us st'.us) {te : Nat} {x y : Operand} (hx : Same st st' x) (hy : Same st st' y) (h : preCopy E st te x y = some p) : preCopy E st' te x y = some p := by
  unfold preCopy at h ⊢
  rw [operand_same hx, operand_same hy]
  split at h
  · rename_i h1 h2
    try simp only [h1, h2]
    split at h
    · rename_i hk
      rw [hu _ _ hk]
      dsimp only
      split at h
      · rename_i hcond
        rw [if_pos hcond]
        split at h
        · rename_i hm; rw [matLf_mono hu hm]; exact h
        · cases h
      · cases h
    · cases h
  · cases h
theorem preMinMax_same {b : Bool} {l : List Operand} (hs : ∀ x ∈ l, Same st st' x) : preMinMax E st' b l = preMinMax E st b l := by
  match l, hs with
  | [x, y], hs =>
    simp only [preMinMax]
    rw [operand_same (hs x (by simp)), operand_same (hs y (by simp))]
  | [], _ => rfl
  | [_], _ => rfl
  | _ :: _ :: _ :: _, _ => rfl
theorem pre_mono (hu : noUs st o.op = true \/ ASub st.us st'.us) (hv : opR o.op = false \/ ASub st.vs st'.vs) (hs : ∀ x ∈ o.op.operands.toList, Same st st' x) (hnu : NewU st st' e.nu) (hnv : NewV st st' e.nv)
    (hp : pre E o st = some p) (hg : Gives call p e) : ∃ p', pre E o st' = some p' /\ Gives call p' e := by
  cases hop : o.op with
  | move x =>
    rw [hop] at hs
    refine ⟨p, ?_, hg⟩
    simp only [pre, hop, preMove] at hp ⊢
    rw [operandT_same (hs x (by simp [Op.operands]))]; exact hp
  | assign x =>
    rw [hop] at hs
    refine ⟨p, ?_, hg⟩
    simp only [pre, hop, preMove] at hp ⊢
    rw [operandT_same (hs x (by simp [Op.operands]))]; exact hp
  | pick x y z =>
    rw [hop] at hs
    refine ⟨p, ?_, hg⟩
    simp only [pre, hop] at hp ⊢
    rw [operand_same (hs x (by simp [Op.operands])), operand_same (hs y (by simp [Op.operands])), operand_same (hs z (by simp [Op.operands]))]; exact hp
  | alloc t =>
    simp only [pre, hop] at hp ⊢
    split at hp
    · rename_i d hd
      split at hp
      · rename_i hf
        cases hp
        obtain ⟨hb, rfl⟩ := gives_one hg
        rw [hnv _ (by simp [getA_cons]) hf]
        exact ⟨_, rfl, hg⟩
      · cases hp
    · cases hp
  | box t x =>
    rw [hop] at hs
    simp only [pre, hop] at hp ⊢
    rw [operand_same (hs x (by simp [Op.operands]))]
    split at hp
    · rename_i g ls d h1 hd
      split at hp
      · rename_i hf
        split at hp
        · rename_i hlen
          cases hp
          obtain ⟨hb, rfl⟩ := gives_one hg
          simp only [h1, hd, hnv d (by simp [getA_cons]) hf, hlen, if_true]
          exact ⟨_, rfl, hg⟩
        · cases hp
      · cases hp
    · cases hp
  | build t ps =>
    rw [hop] at hs
    refine ⟨p, ?_, hg⟩
    simp only [pre, hop, preBuild] at hp ⊢
    have : ∀ q ∈ ps.toList, Same st st' q.2 := fun q hq => hs q.2 (by simp only [Op.operands]; exact List.mem_map.2 ⟨q, hq, rfl⟩)
    simp only [buildLs_same (E := E) this]; exact hp
  | buildSlice t n ps =>
    have hu := hu.resolve_left (by rw [hop]; simp [noUs, opR])
    rw [hop] at hs
    have hsp : ∀ q ∈ ps.toList, Same st st' q.2 := fun q hq => hs q.2 (by simp only [Op.operands]; exact List.mem_map.2 ⟨q, hq, rfl⟩)
    simp only [pre, hop] at hp ⊢
    split at hp
    · rename_i d hd
      simp only [preBuildSlice] at hp ⊢
      split at hp
      · rename_i te hte
        split at hp
        · rename_i hcond
          split at hp
          · rename_i xs u1 hx
            split at hp
            · rename_i hf
              cases hp
              obtain ⟨hb, rfl⟩ := gives_one hg
              simp only [hte, if_pos hcond, litXs_mono ps.toList hu 0 _ hsp hx, hnu (64 * d) (by simp [getA_cons]) hf]
              exact ⟨_, rfl, hg⟩
            · cases hp
          · cases hp
        · cases hp
      · cases hp
    · cases hp
  | load t x =>
    rw [hop] at hs hu hv
    have hv := hv.resolve_left (by simp [opR])
    refine ⟨p, ?_, hg⟩
    simp only [pre, hop, preLoad] at hp ⊢
    rw [operand_same (hs x (by simp [Op.operands]))]
    split at hp
    · rename_i q hx
      try rw [hx]
      try dsimp only
      have hu : q.noElem = true \/ ASub st.us st'.us := hu.imp (fun h => noUs_ptr h hx) id
      split at hp
      · rename_i ls hr
        rw [readP_mono2 hu hv hr]; exact hp
      · cases hp
    · cases hp
  | store t x y =>
    have hu := hu.resolve_left (by rw [hop]; simp [noUs, opR])
    have hv := hv.resolve_left (by rw [hop]; simp [opR])
    rw [hop] at hs
    refine ⟨p, ?_, hg⟩
    simp only [pre, hop] at hp ⊢
    exact preStore_mono hu hv (hs x (by simp [Op.operands])) (hs y (by simp [Op.operands])) hp
  | nilCheck x =>
    rw [hop] at hs hu
    refine ⟨p, ?_, hg⟩
    simp only [pre, hop] at hp ⊢
    rw [operand_same (hs x (by simp [Op.operands]))]
    split at hp
    · rename_i q hx
      have hu : q.noElem = true \/ ASub st.us st'.us := hu.imp (fun h => noUs_ptr h hx) id
      split at hp
      · rename_i hok; try simp only [hx]
        simp only [ptrOk_mono2 hu hok]; exact hp
      · cases hp
    · cases hp
  | fieldAddr t x i =>
    rw [hop] at hs hu
    refine ⟨p, ?_, hg⟩
    simp only [pre, hop] at hp ⊢
    rw [operand_same (hs x (by simp [Op.operands]))]
    split at hp
    · rename_i q off hx hoff
      have hu : q.noElem = true \/ ASub st.us st'.us := hu.imp (fun h => noUs_ptr h hx) id
      split at hp
      · rename_i hok; try simp only [hx, hoff]
        simp only [ptrOk_mono2 hu hok]; exact hp
      · cases hp
    · cases hp
  | binOp op t x y t' =>
    rw [hop] at hs
    refine ⟨p, ?_, hg⟩
    simp only [pre, hop] at hp ⊢
    rw [operand_same (hs x (by simp [Op.operands])), operand_same (hs y (by simp [Op.operands]))]; exact hp
  | unOp op t x =>
    rw [hop] at hs
    refine ⟨p, ?_, hg⟩
    simp only [pre, hop] at hp ⊢
    rw [operand_same (hs x (by simp [Op.operands]))]; exact hp
  | indexAddr t x i =>
    have hu := hu.resolve_left (by rw [hop]; simp [noUs, opR])
    rw [hop] at hs
    refine ⟨p, ?_, hg⟩
    simp only [pre, hop] at hp ⊢
    exact preIndexAddr_mono hu (hs x (by simp [Op.operands])) (hs i (by simp [Op.operands])) hp
  | index t x i =>
    rw [hop] at hs
    refine ⟨p, ?_, hg⟩
    simp only [pre, hop, preIndex] at hp ⊢
    rw [operand_same (hs x (by simp [Op.operands])), operand_same (hs i (by simp [Op.operands]))]; exact hp
  | slice t x lo hi mx =>
    have hu := hu.resolve_left (by rw [hop]; simp [noUs, opR])
    rw [hop] at hs
    refine ⟨p, ?_, hg⟩
    simp only [pre, hop] at hp ⊢
    exact preSlice_mono hu (hs x (by simp [Op.operands])) (fun y hy => hs y (by simp [Op.operands, hy])) (fun y hy => hs y (by simp [Op.operands, hy])) hp
  | makeSlice t x y =>
    rw [hop] at hs
    simp only [pre, hop] at hp ⊢
    split at hp
    · rename_i d hd
      simp only [preMakeSlice] at hp ⊢
      rw [operand_same (hs x (by simp [Op.operands])), operand_same (hs y (by simp [Op.operands]))]
      split at hp
      · rename_i te l c h1 h2 h3 hf
        cases hp
        obtain ⟨hb, rfl⟩ := gives_one hg
        simp only [h1, h2, h3, hnu (64 * d) (by simp [getA_cons]) hf]
        exact ⟨_, rfl, hg⟩
      · cases hp
    · cases hp
  | convert s t x =>
    have hu := hu.resolve_left (by rw [hop]; simp [noUs, opR])
    rw [hop] at hs
    simp only [pre, hop] at hp ⊢
    split at hp
    · rename_i d hd
      simp only [preConvert] at hp ⊢
      rw [operandT_same (hs x (by simp [Op.operands]))]
      split at hp
      · rename_i h1 h2
        try simp only [h1, h2]
        exact ⟨p, hp, hg⟩
      · rename_i h1 h2
        split at hp
        · rename_i hf
          cases hp
          obtain ⟨hb, rfl⟩ := gives_one hg
          try simp only [h1, h2]
          simp only [hnu (64 * d) (by simp [getA_cons]) hf]
          exact ⟨_, rfl, hg⟩
        · cases hp
      · rename_i l h1 h2
        split at hp
        · rename_i xs hm
          refine ⟨p, ?_, hg⟩
          try rw [h1, h2]
          try dsimp only
          rw [matLf_mono hu hm]
          exact hp
        · cases hp
      · cases hp
    · cases hp
  | extract x i =>
    rw [hop] at hs
    refine ⟨p, ?_, hg⟩
    simp only [pre, hop] at hp ⊢
    rw [operand_same (hs x (by simp [Op.operands]))]; exact hp
  | call cl =>
    rw [hop] at hs hu hv
    have hsa : ∀ x ∈ cl.args.toList, Same st st' x := fun x hx => hs x (by simp [Op.operands, Call.operands]; exact .inr (by simpa using hx))
    obtain ⟨ce, ar, aty⟩ := cl
    dsimp only at hsa
    cases ce with
    | builtin b =>
      cases b with
      | len =>
        have hu := hu.resolve_left (by simp [noUs, opR])
        refine ⟨p, ?_, hg⟩
        simp only [pre, hop] at hp ⊢
        split at hp
        · rename_i x t hx ht
          rw [operand_same (hsa x (by rw [hx]; simp))]
          split at hp
          · rename_i a ha
            split at hp
            · rename_i n hl; simp only [lenOf_mono hu hl]; exact hp
            · cases hp
          · cases hp
        · cases hp
      | append =>
        have hu := hu.resolve_left (by simp [noUs, opR])
        cases hdst : o.dst with
        | none => simp [pre, hop, hdst] at hp
        | some d =>
          simp only [pre, hop, hdst] at hp ⊢
          split at hp
          · rename_i x y hx
            exact preAppend_mono hu (hsa x (by rw [hx]; simp)) (hsa y (by rw [hx]; simp)) hp hg hnu
          · cases hp
      | copy =>
        have hu := hu.resolve_left (by simp [noUs, opR])
        refine ⟨p, ?_, hg⟩
        simp only [pre, hop] at hp ⊢
        split at hp
        · rename_i x y t1 t2 hx ht
          split at hp
          · exact preCopy_mono hu (hsa x (by rw [hx]; simp)) (hsa y (by rw [hx]; simp)) hp
          · cases hp
        · cases hp
      | min =>
        refine ⟨p, ?_, hg⟩
        simp only [pre, hop] at hp ⊢
        rw [preMinMax_same hsa]; exact hp
      | max =>
        refine ⟨p, ?_, hg⟩
        simp only [pre, hop] at hp ⊢
        rw [preMinMax_same hsa]; exact hp
      | _ => simp [pre, hop] at hp
    | value v =>
      cases v with
      | func f =>
        have hu := hu.resolve_left (by simp [noUs, opR])
        have hv := hv.resolve_left (by simp [opR])
        cases hdst : o.dst with
        | none => simp [pre, hop, hdst] at hp
        | some d =>
          simp only [pre, hop, hdst] at hp ⊢
          exact preCall_mono hu hv hsa hp hg hnu
      | _ => simp [pre, hop] at hp
    | _ => simp [pre, hop] at hp
  | _ => simp [pre, hop] at hp
end
end Go.Proofs.YtaflceohlijekaaGreat.Ev
namespace Go.Proofs.YtaflceohlijekaaGreat.Ev
section
variable {P : Program} {E : Env} {tk : Nat -> Bool} {R : Type} {call : E.Call} {k : Eff -> Option R} {r : R} {p : Plan E} {e : Eff} {us us' : List (Nat × UE)} {st st' : St} {o : Oper}
def EffFresh (st : St) (e : Eff) : Prop := (∀ i, getA e.nv i ≠ none -> getA st.vs i = none) /\ ∀ i, getA e.nu i ≠ none -> getA st.us i = none
theorem EffQuiet.fresh (h : EffQuiet st e) : EffFresh st e := ⟨fun i hi => absurd (by rw [h.1]; rfl) hi, h.2⟩
theorem PlanQuiet.gives (h : PlanQuiet st p) (hg : Gives call p e) : EffQuiet st e := by
  cases p with
  | alts l =>
    obtain ⟨l1, l2, rfl, _⟩ := hg
    exact h (true, e) (by simp)
  | call f x mk =>
    obtain ⟨z, _, h2⟩ := hg
    exact h z e h2
theorem giveLf_shallow {us : List (Nat × UE)} {l : Lf} {s : Sh} {r} (hd : s.deep = false) (h : giveLf us l s = some r) : r.2 = [] := by
  unfold giveLf at h
  split at h
  · split at h
    · cases h; rfl
    · cases h
  · cases h; rfl
  · cases h; rfl
  · cases h; rfl
  · cases hd
  · cases hd
  · cases h
theorem give_shallow : ∀ (s : Sh) (us : List (Nat × UE)) (l : List Lf) (r), s.deep = false -> give us s l = some r -> r.2.1 = []
  | .unit, us, l, r, hd, h => by simp only [give, Option.some.injEq] at h; subst h; rfl
  | .pair a b, us, l, r, hd, h => by
    simp only [Sh.deep, Bool.or_eq_false_iff] at hd
    simp only [give] at h
    split at h
    · rename_i x u1 l1 h1
      have e1 := give_shallow a us l _ hd.1 h1
      simp only at e1
      subst e1
      split at h
      · rename_i y u2 l2 h2
        have e2 := give_shallow b _ l1 _ hd.2 h2
        simp only at e2
        subst e2
        simp only [Option.some.injEq] at h
        subst h
        rfl
      · cases h
    · cases h
  | .int k, us, l, r, hd, h => by
    simp only [give] at h
    split at h
    · split at h
      · rename_i x u hx
        simp only [Option.some.injEq] at h
        subst h
        exact giveLf_shallow hd hx
      · cases h
    · cases h
  | .bool, us, l, r, hd, h => by
    simp only [give] at h
    split at h
    · split at h
      · rename_i x u hx
        simp only [Option.some.injEq] at h
        subst h
        exact giveLf_shallow hd hx
      · cases h
    · cases h
  | .str, us, l, r, hd, h => by
    simp only [give] at h
    split at h
    · split at h
      · rename_i x u hx
        simp only [Option.some.injEq] at h
        subst h
        exact giveLf_shallow hd hx
      · cases h
    · cases h
  | .sl e, us, l, r, hd, h => by cases hd
theorem litXs_shallow {st : St} {e : Sh} {te : Nat} (hd : e.deep = false) : ∀ (parts : List (Nat × Operand)) (us : List (Nat × UE)) (i : Nat) (r), litXs E us st e te parts i = some r -> r.2 = []
  | [], us, i, r, h => by simp only [litXs, Option.some.injEq] at h; subst h; rfl
  | (j, x) :: t, us, i, r, h => by
    simp only [litXs] at h
    split at h
    · split at h
      · split at h
        · rename_i v u1 hg
          have e1 := give_shallow e us _ _ hd hg
          simp only at e1
          subst e1
          split at h
          · rename_i r' u2 hl
            have e2 := litXs_shallow hd t _ _ _ hl
            simp only at e2
            subst e2
            simp only [Option.some.injEq] at h
            subst h
            rfl
          · cases h
        · cases h
      · cases h
    · cases h
theorem pre_fresh (htk : ∀ t, tk t = true -> TyOk P E t) (hck : opOk P E tk o = true) (hw : opW E o.op = false) (hp : pre E o st = some p) (hg : Gives call p e) : EffFresh st e := by
  by_cases hq : opQuiet o.op = true
  · by_cases hc : quietCall E o.op = true
    · exact ((pre_quiet hq hc hp).gives hg).fresh
    · exfalso
      apply hc
      cases hop : o.op with
      | call cl =>
        obtain ⟨ce, ar, aty⟩ := cl
        rw [hop] at hw
        cases ce with
        | value v =>
          cases v with
          | func f => simpa [opW, quietCall] using hw
          | _ => simp [opW] at hw
        | _ => rfl
      | _ => rfl
  · cases hop : o.op with
    | alloc t =>
      simp only [pre, hop] at hp
      split at hp
      · split at hp
        · rename_i hf
          cases hp
          obtain ⟨_, rfl⟩ := gives_one hg
          refine ⟨fun i hi => ?_, fun i hi => absurd rfl hi⟩
          simp only [getA_cons] at hi
          split at hi
          · rename_i e; rw [<- e]; exact hf
          · exact absurd rfl hi
        · cases hp
      · cases hp
    | box t x =>
      simp only [pre, hop] at hp
      split at hp
      · split at hp
        · rename_i hf
          split at hp
          · cases hp
            obtain ⟨_, rfl⟩ := gives_one hg
            refine ⟨fun i hi => ?_, fun i hi => absurd rfl hi⟩
            simp only [getA_cons] at hi
            split at hi
            · rename_i e; rw [<- e]; exact hf
            · exact absurd rfl hi
          · cases hp
        · cases hp
      · cases hp
    | buildSlice t n ps =>
      simp only [opOk, hop, Bool.and_eq_true] at hck
      simp only [pre, hop] at hp
      split at hp
      · rename_i d hd
        simp only [preBuildSlice] at hp
        split at hp
        · rename_i te hte
          have hsh := ((htk t hck.1).slice hte).2.1
          rw [hop] at hw
          simp only [opW, hsh] at hw
          split at hp
          · split at hp
            · rename_i xs u1 hx
              have e1 := litXs_shallow hw _ _ _ _ hx
              simp only at e1
              subst e1
              split at hp
              · rename_i hf
                cases hp
                obtain ⟨_, rfl⟩ := gives_one hg
                refine ⟨fun i hi => absurd rfl hi, fun i hi => ?_⟩
                simp only [getA_cons] at hi
                split at hi
                · rename_i e; rw [<- e]; exact hf
                · exact absurd rfl hi
              · cases hp
            · cases hp
          · cases hp
        · cases hp
      · cases hp
    | store t x y => rw [hop] at hw; cases hw
    | call cl =>
      obtain ⟨ce, ar, aty⟩ := cl
      rw [hop] at hq hw
      cases ce with
      | builtin b => cases b <;> first | exact absurd rfl hq | cases hw
      | _ => exact absurd rfl hq
    | _ => rw [hop] at hq; exact absurd rfl hq
theorem pre_noV (hw : opWU o.op = true) (hp : pre E o st = some p) (hg : Gives call p e) : e.nv = [] := by
  cases hop : o.op with
  | buildSlice t n ps =>
    simp only [pre, hop] at hp
    split at hp
    · simp only [preBuildSlice] at hp
      split at hp
      · split at hp
        · split at hp
          · split at hp
            · cases hp
              obtain ⟨_, rfl⟩ := gives_one hg
              rfl
            · cases hp
          · cases hp
        · cases hp
      · cases hp
    · cases hp
  | call cl =>
    obtain ⟨ce, ar, aty⟩ := cl
    rw [hop] at hw
    cases ce with
    | builtin b =>
      cases b with
      | append =>
        cases hdst : o.dst with
        | none => simp [pre, hop, hdst] at hp
        | some d =>
          simp only [pre, hop, hdst] at hp
          split at hp
          · unfold preAppend at hp
            split at hp
            · dsimp only at hp
              split at hp
              · split at hp
                · split at hp
                  · cases hp
                    obtain ⟨_, rfl⟩ := gives_one hg
                    rfl
                  · cases hp
                · split at hp
                  · cases hp
                    obtain ⟨_, rfl⟩ := gives_one hg
                    rfl
                  · cases hp
              · cases hp
            · cases hp
          · cases hp
      | copy =>
        simp only [pre, hop] at hp
        split at hp
        · split at hp
          · unfold preCopy at hp
            split at hp
            · split at hp
              · split at hp
                · split at hp
                  · cases hp
                    obtain ⟨_, rfl⟩ := gives_one hg
                    rfl
                  · cases hp
                · cases hp
              · cases hp
            · cases hp
          · cases hp
        · cases hp
      | _ => cases hw
    | _ => cases hw
  | _ => rw [hop] at hw; cases hw
end
end Go.Proofs.YtaflceohlijekaaGreat.Ev
namespace Go.Proofs.YtaflceohlijekaaGreat.Ev
def stP (st0 : St) (L : Nat -> Bool) : Done -> St
  | [] => st0
  | (j, d, e) :: t => bif L j then e.apply d (stP st0 L t) else stP st0 L t
theorem stAt_stP (st0 : St) (m : Nat) : ∀ done : Done, stAt st0 m done = stP st0 m.testBit done
  | [] => rfl
  | (j, d, e) :: t => by simp only [stAt, stP, stAt_stP st0 m t]
theorem stP_congr {st0 : St} {L L' : Nat -> Bool} : ∀ {done : Done}, (∀ x ∈ done, L x.1 = L' x.1) -> stP st0 L done = stP st0 L' done
  | [], _ => rfl
  | (j, d, e) :: t, h => by
    simp only [stP, h (j, d, e) (List.mem_cons_self), stP_congr (done := t) (fun x hx => h x (List.mem_cons_of_mem _ hx))]
theorem stP_above {st0 : St} {L : Nat -> Bool} : ∀ {pr t : Done}, (∀ x ∈ pr, L x.1 = false) -> stP st0 L (pr ++ t) = stP st0 L t
  | [], _, _ => rfl
  | (j, d, e) :: pr, t, h => by
    simp only [List.cons_append, stP, h (j, d, e) (List.mem_cons_self), cond_false]
    exact stP_above (fun x hx => h x (List.mem_cons_of_mem _ hx))
structure SEq (a b : St) : Prop where
  us : ∀ k, getA a.us k = getA b.us k
  vs : ∀ k, getA a.vs k = getA b.vs k
  sl : ∀ k, getA a.sl k = getA b.sl k
theorem SEq.refl (a : St) : SEq a a := ⟨fun _ => rfl, fun _ => rfl, fun _ => rfl⟩
theorem SEq.trans {a b c : St} (h : SEq a b) (k : SEq b c) : SEq a c := ⟨fun i => (h.us i).trans (k.us i), fun i => (h.vs i).trans (k.vs i), fun i => (h.sl i).trans (k.sl i)⟩
theorem getA_app_congr {α : Type} {l t t' : List (Nat × α)} (h : ∀ k, getA t k = getA t' k) (k : Nat) : getA (l ++ t) k = getA (l ++ t') k := by
  rw [getA_append, getA_append, h]
theorem SEq.apply {a b : St} (h : SEq a b) (e : Eff) (d : Option Nat) : SEq (e.apply d a) (e.apply d b) := by
  refine ⟨getA_app_congr h.us, getA_app_congr h.vs, ?_⟩
  cases d with
  | none => exact h.sl
  | some x =>
    intro k
    show getA ((x, e.v) :: a.sl) k = getA ((x, e.v) :: b.sl) k
    rw [getA_cons, getA_cons, h.sl]
def KDisj (e e' : Eff) : Prop := (∀ k, getA e.nv k ≠ none -> getA e'.nv k = none) /\ ∀ k, getA e.nu k ≠ none -> getA e'.nu k = none
theorem KDisj.symm {e e' : Eff} (h : KDisj e e') : KDisj e' e :=
  ⟨fun k hk => by
    cases hq : getA e.nv k with
    | none => rfl
    | some v => exact absurd (h.1 k (by rw [hq]; exact fun h => by cases h)) hk,
   fun k hk => by
    cases hq : getA e.nu k with
    | none => rfl
    | some v => exact absurd (h.2 k (by rw [hq]; exact fun h => by cases h)) hk⟩
theorem disjK_none {α β : Type} : ∀ {l : List (Nat × α)} {t : List (Nat × β)}, disjK l t = true -> ∀ k, getA l k ≠ none -> getA t k = none
  | [], _, _, k, hk => absurd rfl hk
  | (j, v) :: l, t, h, k, hk => by
    simp only [disjK, List.all_cons, Bool.and_eq_true] at h
    rw [getA_cons] at hk
    split at hk
    · rename_i e
      subst e
      simpa using h.1
    · exact disjK_none (l := l) h.2 k hk
theorem disjE_spec {m : Nat} {e : Eff} : ∀ {t : Done}, disjE m e t = true -> ∀ x ∈ t, m.testBit x.1 = false -> KDisj e x.2.2
  | [], _, x, hx, _ => by cases hx
  | (j, d, e') :: t, h, x, hx, hm => by
    simp only [disjE, Bool.and_eq_true, Bool.or_eq_true] at h
    cases hx with
    | head =>
      rcases h.1 with q | ⟨q1, q2⟩
      · rw [hm] at q; cases q
      · exact ⟨disjK_none q1, disjK_none q2⟩
    | tail _ hx => exact disjE_spec h.2 x hx hm
theorem app_swap {α : Type} {l l' t : List (Nat × α)} (h : ∀ k, getA l k ≠ none -> getA l' k = none) (k : Nat) : getA (l ++ (l' ++ t)) k = getA (l' ++ (l ++ t)) k := by
  simp only [getA_append]
  cases h1 : getA l k with
  | none => cases h2 : getA l' k <;> rfl
  | some v => rw [h k (by rw [h1]; exact fun h => by cases h)]
theorem apply_swap {e e' : Eff} {d d' : Option Nat} (h : KDisj e e') (hd : ∀ x, d = some x -> d' ≠ some x) (s : St) : SEq (e.apply d (e'.apply d' s)) (e'.apply d' (e.apply d s)) := by
  refine ⟨app_swap h.2, app_swap h.1, ?_⟩
  cases d with
  | none => intro k; rfl
  | some x =>
    cases d' with
    | none => intro k; rfl
    | some y =>
      have hne : y ≠ x := fun q => hd x rfl (by rw [q])
      intro k
      show getA ((x, e.v) :: (y, e'.v) :: s.sl) k = getA ((y, e'.v) :: (x, e.v) :: s.sl) k
      simp only [getA_cons]
      split
      · rename_i q; rw [if_neg (fun q' => hne (q'.trans q.symm))]
      · rfl
abbrev Desc (done : Done) : Prop := done.Pairwise fun a b => b.1 < a.1
theorem stP_add {st0 : St} {L L' : Nat -> Bool} {i : Nat} {d : Option Nat} {e : Eff} (hi : L i = false) (hi' : L' i = true) (hL : ∀ j, j ≠ i -> L' j = L j) : ∀ {done : Done}, Desc done -> (i, d, e) ∈ done ->
    (∀ x ∈ done, i < x.1 -> L x.1 = true -> KDisj x.2.2 e /\ ∀ y, x.2.1 = some y -> d ≠ some y) -> SEq (stP st0 L' done) (e.apply d (stP st0 L done))
  | [], _, hm, _ => by cases hm
  | (j, dj, ej) :: t, hp, hm, hx => by
    rw [Desc, List.pairwise_cons] at hp
    simp only [List.mem_cons] at hm
    rcases hm with heq | hm
    · cases heq
      have : stP st0 L' t = stP st0 L t := stP_congr fun x hx => hL _ (fun q => by have := hp.1 x hx; rw [q] at this; exact Nat.lt_irrefl _ this)
      simp only [stP, hi', hi, cond_true, cond_false, this]
      exact .refl _
    · have hlt : i < j := hp.1 _ hm
      have ih := stP_add (st0 := st0) hi hi' hL hp.2 hm (fun x hx' => hx x (List.mem_cons_of_mem _ hx'))
      have hj := hL j (by omega)
      cases hLj : L j with
      | true =>
        rw [hLj] at hj
        simp only [stP, hj, hLj, cond_true]
        have := hx (j, dj, ej) (List.mem_cons_self) hlt hLj
        exact (ih.apply ej dj).trans (apply_swap this.1 this.2 _)
      | false =>
        rw [hLj] at hj
        simp only [stP, hj, hLj, cond_false]
        exact ih
theorem stP_us {st0 : St} {L : Nat -> Bool} {k : Nat} : ∀ {done : Done}, getA (stP st0 L done).us k ≠ none ↔ getA st0.us k ≠ none \/ ∃ x ∈ done, L x.1 = true /\ getA x.2.2.nu k ≠ none
  | [] => by simp [stP]
  | (j, d, e) :: t => by
    have ih := stP_us (st0 := st0) (L := L) (k := k) (done := t)
    have h2 : getA (Eff.apply e d (stP st0 L t)).us k ≠ none ↔ getA e.nu k ≠ none \/ getA (stP st0 L t).us k ≠ none := by
      show getA (e.nu ++ (stP st0 L t).us) k ≠ none ↔ _
      rw [getA_append]
      cases getA e.nu k <;> simp
    cases hL : L j with
    | true =>
      simp only [stP, hL, cond_true, h2, ih, List.mem_cons]
      constructor
      · rintro (h | h | ⟨x, hx, h⟩)
        · exact .inr ⟨_, .inl rfl, hL, h⟩
        · exact .inl h
        · exact .inr ⟨x, .inr hx, h⟩
      · rintro (h | ⟨x, rfl | hx, h⟩)
        · exact .inr (.inl h)
        · exact .inl h.2
        · exact .inr (.inr ⟨x, hx, h⟩)
    | false =>
      simp only [stP, hL, cond_false, ih, List.mem_cons]
      constructor
      · rintro (h | ⟨x, hx, h⟩)
        · exact .inl h
        · exact .inr ⟨x, .inr hx, h⟩
      · rintro (h | ⟨x, rfl | hx, h⟩)
        · exact .inl h
        · rw [hL] at h; exact absurd h.1 (by simp)
        · exact .inr ⟨x, hx, h⟩
theorem stP_vs {st0 : St} {L : Nat -> Bool} {k : Nat} : ∀ {done : Done}, getA (stP st0 L done).vs k ≠ none ↔ getA st0.vs k ≠ none \/ ∃ x ∈ done, L x.1 = true /\ getA x.2.2.nv k ≠ none
  | [] => by simp [stP]
  | (j, d, e) :: t => by
    have ih := stP_vs (st0 := st0) (L := L) (k := k) (done := t)
    have h2 : getA (Eff.apply e d (stP st0 L t)).vs k ≠ none ↔ getA e.nv k ≠ none \/ getA (stP st0 L t).vs k ≠ none := by
      show getA (e.nv ++ (stP st0 L t).vs) k ≠ none ↔ _
      rw [getA_append]
      cases getA e.nv k <;> simp
    cases hL : L j with
    | true =>
      simp only [stP, hL, cond_true, h2, ih, List.mem_cons]
      constructor
      · rintro (h | h | ⟨x, hx, h⟩)
        · exact .inr ⟨_, .inl rfl, hL, h⟩
        · exact .inl h
        · exact .inr ⟨x, .inr hx, h⟩
      · rintro (h | ⟨x, rfl | hx, h⟩)
        · exact .inr (.inl h)
        · exact .inl h.2
        · exact .inr (.inr ⟨x, hx, h⟩)
    | false =>
      simp only [stP, hL, cond_false, ih, List.mem_cons]
      constructor
      · rintro (h | ⟨x, hx, h⟩)
        · exact .inl h
        · exact .inr ⟨x, .inr hx, h⟩
      · rintro (h | ⟨x, rfl | hx, h⟩)
        · exact .inl h
        · rw [hL] at h; exact absurd h.1 (by simp)
        · exact .inr ⟨x, hx, h⟩
theorem ASub.both {α : Type} {l t t' : List (Nat × α)} (h : ∀ k, getA t k ≠ none -> getA l k = none) (hs : ASub t t') : ASub t (l ++ t') := by
  intro k v hk
  rw [getA_append, h k (by rw [hk]; exact fun h => by cases h)]
  exact hs k v hk
theorem stP_subU {st0 : St} {L1 L2 : Nat -> Bool} (hL : ∀ j, L1 j = true -> L2 j = true) : ∀ {done : Done}, (∀ x ∈ done, L2 x.1 = true -> L1 x.1 = false -> ∀ k, getA (stP st0 L1 done).us k ≠ none -> getA x.2.2.nu k = none) -> ASub (stP st0 L1 done).us (stP st0 L2 done).us
  | [], _ => fun _ _ h => h
  | (j, d, e) :: t, h => by
    have ih : ASub (stP st0 L1 t).us (stP st0 L2 t).us := stP_subU hL fun x hx h2 h1 k hk => h x (List.mem_cons_of_mem _ hx) h2 h1 k (by
      rw [stP_us] at hk ⊢
      exact hk.imp id fun ⟨y, hy, q⟩ => ⟨y, List.mem_cons_of_mem _ hy, q⟩)
    cases h1 : L1 j with
    | true =>
      simp only [stP, h1, hL j h1, cond_true]
      exact ih.app e.nu
    | false =>
      cases h2 : L2 j with
      | true =>
        have hk := h (j, d, e) (List.mem_cons_self) h2 h1
        simp only [stP, h1, h2, cond_true, cond_false] at hk ⊢
        exact ASub.both hk ih
      | false =>
        simp only [stP, h1, h2, cond_false]
        exact ih
theorem stP_subV {st0 : St} {L1 L2 : Nat -> Bool} (hL : ∀ j, L1 j = true -> L2 j = true) : ∀ {done : Done}, (∀ x ∈ done, L2 x.1 = true -> L1 x.1 = false -> ∀ k, getA (stP st0 L1 done).vs k ≠ none -> getA x.2.2.nv k = none) -> ASub (stP st0 L1 done).vs (stP st0 L2 done).vs
  | [], _ => fun _ _ h => h
  | (j, d, e) :: t, h => by
    have ih : ASub (stP st0 L1 t).vs (stP st0 L2 t).vs := stP_subV hL fun x hx h2 h1 k hk => h x (List.mem_cons_of_mem _ hx) h2 h1 k (by
      rw [stP_vs] at hk ⊢
      exact hk.imp id fun ⟨y, hy, q⟩ => ⟨y, List.mem_cons_of_mem _ hy, q⟩)
    cases h1 : L1 j with
    | true =>
      simp only [stP, h1, hL j h1, cond_true]
      exact ih.app e.nv
    | false =>
      cases h2 : L2 j with
      | true =>
        have hk := h (j, d, e) (List.mem_cons_self) h2 h1
        simp only [stP, h1, h2, cond_true, cond_false] at hk ⊢
        exact ASub.both hk ih
      | false =>
        simp only [stP, h1, h2, cond_false]
        exact ih
theorem stP_slot {st0 : St} {L1 L2 : Nat -> Bool} {s : Nat} : ∀ {done : Done}, (∀ x ∈ done, x.2.1 = some s -> L1 x.1 = L2 x.1) -> getA (stP st0 L1 done).sl s = getA (stP st0 L2 done).sl s
  | [], _ => rfl
  | (j, d, e) :: t, h => by
    have ih := stP_slot (st0 := st0) (done := t) (fun x hx => h x (List.mem_cons_of_mem _ hx))
    have hput : ∀ st : St, d ≠ some s -> getA (Eff.apply e d st).sl s = getA st.sl s := by
      intro st hd
      cases d with
      | none => rfl
      | some x =>
        show getA ((x, e.v) :: st.sl) s = _
        rw [getA_cons, if_neg (fun q => hd (by rw [q]))]
    by_cases hd : d = some s
    · have := h (j, d, e) (List.mem_cons_self) hd
      dsimp only at this
      subst hd
      simp only [stP, this]
      cases L2 j with
      | true =>
        show getA ((s, e.v) :: _) s = getA ((s, e.v) :: _) s
        rw [getA_cons, getA_cons, if_pos rfl, if_pos rfl]
      | false => exact ih
    · simp only [stP]
      cases L1 j <;> cases L2 j <;> simp only [cond_true, cond_false, hput _ hd] <;> exact ih
theorem stP_own {st0 : St} {L : Nat -> Bool} {s j : Nat} {e : Eff} (hj : L j = true) : ∀ {done : Done}, Desc done -> (j, some s, e) ∈ done -> (∀ x ∈ done, x.2.1 = some s -> x.1 = j) -> getA (stP st0 L done).sl s = some e.v
  | [], _, hm, _ => by cases hm
  | (i, d, e') :: t, hp, hm, hx => by
    rw [Desc, List.pairwise_cons] at hp
    simp only [List.mem_cons] at hm
    rcases hm with heq | hm
    · cases heq
      simp only [stP, hj, cond_true]
      show getA ((s, e.v) :: _) s = _
      rw [getA_cons, if_pos rfl]
    · have hne : d ≠ some s := by
        intro q
        have h1 := hx (i, d, e') (List.mem_cons_self) q
        have h2 := hp.1 _ hm
        dsimp only at h1 h2
        omega
      have ih := stP_own (st0 := st0) hj hp.2 hm (fun x hx' => hx x (List.mem_cons_of_mem _ hx'))
      simp only [stP]
      cases L i with
      | true =>
        cases d with
        | none => exact ih
        | some y =>
          show getA ((y, e'.v) :: _) s = _
          rw [getA_cons, if_neg (fun q => hne (by rw [q]))]
          exact ih
      | false => exact ih
theorem effAt_mem : ∀ {done : Done} {j : Nat} {e : Eff}, effAt done j = some e -> ∃ d, (j, d, e) ∈ done
  | [], _, _, h => by cases h
  | (i, d, e') :: t, j, e, h => by
    simp only [effAt] at h
    cases hb : Nat.beq i j with
    | true =>
      rw [hb] at h
      simp only [cond_true, Option.some.injEq] at h
      have := Nat.eq_of_beq_eq_true hb
      subst this
      subst h
      exact ⟨d, List.mem_cons_self⟩
    | false =>
      rw [hb] at h
      obtain ⟨d', h'⟩ := effAt_mem (done := t) h
      exact ⟨d', List.mem_cons_of_mem _ h'⟩
theorem setEff_same : ∀ {done : Done} {j : Nat} {e : Eff}, effAt done j = some e -> setEff done j e = done
  | [], _, _, h => by cases h
  | (i, d, e') :: t, j, e, h => by
    simp only [effAt, setEff] at h ⊢
    cases hb : Nat.beq i j with
    | true =>
      rw [hb] at h
      simp only [cond_true, Option.some.injEq] at h
      subst h
      have := Nat.eq_of_beq_eq_true hb
      subst this
      rfl
    | false =>
      rw [hb] at h
      simp only [cond_false] at h ⊢
      rw [setEff_same (done := t) h]
end Go.Proofs.YtaflceohlijekaaGreat.Ev
namespace Go.Proofs.YtaflceohlijekaaGreat.Ev
section
variable {P : Program} {E : Env} {tk : Nat -> Bool} {R : Type} {call : E.Call} {k : St -> Option R} {r : R} {p : Plan E} {e : Eff} {st st' st0 : St} {o : Oper} {all : List Oper} {masks : List Nat}
def Goes (E : Env) (call : E.Call) (all : List Oper) (masks : List Nat) (st0 : St) (i : Nat) (o : Oper) (e : Eff) (done : Done) : Prop :=
  (o.guard = none \/ ∃ j w nv nu, o.guard = some (j, w) /\ effAt done j = some ⟨.v false [.bool w], nv, nu⟩) /\
  (needNoUs E all masks o i = false \/ noUs (stAt st0 (masks.getD i 0) done) o.op = true) /\
  ∃ p, pre E o (stAt st0 (masks.getD i 0) done) = some p /\ Gives call p e
def GNo (w : Bool) (v : AV) : Prop := v = .v false [.bool (!w)] \/ v = .no
def Skips (o : Oper) (e : Eff) (done : Done) : Prop := e = ⟨.no, [], []⟩ /\ ∃ j w v nv nu, o.guard = some (j, w) /\ GNo w v /\ effAt done j = some ⟨v, nv, nu⟩
inductive Good (E : Env) (call : E.Call) (all : List Oper) (masks : List Nat) (st0 : St) : Nat -> Done -> Prop
  | nil : Good E call all masks st0 0 []
  | cons {i : Nat} {done : Done} {o : Oper} {e : Eff} : Good E call all masks st0 i done -> all[i]? = some o -> disjE (masks.getD i 0) e done = true -> (Goes E call all masks st0 i o e done \/ Skips o e done) -> Good E call all masks st0 (i + 1) ((i, o.dst, e) :: done)
theorem disjE_empty {m : Nat} {v : AV} : ∀ {t : Done}, disjE m ⟨v, [], []⟩ t = true
  | [] => rfl
  | (j, d, e) :: t => by simp [disjE, disjK, disjE_empty (t := t)]
theorem evD_good : ∀ (rest : List Oper) (i : Nat) (done : Done), Good E call all masks st0 i done -> rest = all.drop i -> i <= all.length -> evD E call all masks rest i done st0 k = some r ->
    ∃ done', Good E call all masks st0 all.length done' /\ k (stAt st0 (2 ^ all.length - 1) done') = some r
  | [], i, done, hg, hr, hi, h => by
    have : all.length <= i := by
      have := congrArg List.length hr
      simp at this
      omega
    have e : i = all.length := by omega
    subst e
    exact ⟨done, hg, h⟩
  | o :: rest, i, done, hg, hr, hi, h => by
    have hlt : i < all.length := by
      rcases Nat.lt_or_ge i all.length with q | q
      · exact q
      · rw [List.drop_eq_nil_of_le q] at hr; cases hr
    have ho : all[i]? = some o := by
      have := congrArg (·[0]?) hr
      simpa using this.symm
    have hrest : rest = all.drop (i + 1) := by
      have := congrArg List.tail hr
      simpa using this
    have hgo : ∀ (hguard : o.guard = none \/ ∃ j w nv nu, o.guard = some (j, w) /\ effAt done j = some ⟨.v false [.bool w], nv, nu⟩),
        (bif !needNoUs E all masks o i || noUs (stAt st0 (masks.getD i 0) done) o.op then
          (match pre E o (stAt st0 (masks.getD i 0) done) with
          | some p => runPlan E call (fun e => bif disjE (masks.getD i 0) e done then evD E call all masks rest (i + 1) ((i, o.dst, e) :: done) st0 k else none) p
          | none => none) else none) = some r -> ∃ done', Good E call all masks st0 all.length done' /\ k (stAt st0 (2 ^ all.length - 1) done') = some r := by
      intro hguard h1
      cases hc : (!needNoUs E all masks o i || noUs (stAt st0 (masks.getD i 0) done) o.op) with
      | false => rw [hc] at h1; cases h1
      | true =>
        rw [hc] at h1
        simp only [cond_true] at h1
        split at h1
        · rename_i p hp
          obtain ⟨e, hge, h2⟩ := gives_of_run h1
          cases hd : disjE (masks.getD i 0) e done with
          | false => rw [hd] at h2; cases h2
          | true =>
            rw [hd] at h2
            simp only [Bool.or_eq_true, Bool.not_eq_true'] at hc
            exact evD_good rest (i + 1) _ (.cons hg ho hd (.inl ⟨hguard, hc, p, hp, hge⟩)) hrest hlt h2
        · cases h1
    have hskip : (∃ j w v nv nu, o.guard = some (j, w) /\ GNo w v /\ effAt done j = some ⟨v, nv, nu⟩) -> evD E call all masks rest (i + 1) ((i, o.dst, ⟨.no, [], []⟩) :: done) st0 k = some r ->
        ∃ done', Good E call all masks st0 all.length done' /\ k (stAt st0 (2 ^ all.length - 1) done') = some r := by
      intro hguard h1
      exact evD_good rest (i + 1) _ (.cons hg ho disjE_empty (.inr ⟨rfl, hguard⟩)) hrest hlt h1
    simp only [evD] at h
    split at h
    · rename_i hgd
      exact hgo (.inl hgd) h
    · rename_i j want hgd
      split at h
      · rename_i b nv nu heff
        cases b <;> cases want <;> simp only [setEff_same heff] at h
        · exact hgo (.inr ⟨j, _, nv, nu, hgd, heff⟩) h
        · exact hskip ⟨j, _, _, nv, nu, hgd, .inl rfl, heff⟩ h
        · exact hskip ⟨j, _, _, nv, nu, hgd, .inl rfl, heff⟩ h
        · exact hgo (.inr ⟨j, _, nv, nu, hgd, heff⟩) h
      · rename_i nv nu heff
        rw [setEff_same heff] at h
        exact hskip ⟨j, _, _, nv, nu, hgd, .inr rfl, heff⟩ h
      · cases h
theorem Good.desc {n : Nat} {done : Done} (h : Good E call all masks st0 n done) : Desc done /\ ∀ x ∈ done, x.1 < n /\ ∃ o, all[x.1]? = some o /\ x.2.1 = o.dst := by
  induction h with
  | nil => exact ⟨List.Pairwise.nil, fun x hx => by cases hx⟩
  | cons hg ho hd hs ih =>
    refine ⟨List.pairwise_cons.2 ⟨fun x hx => (ih.2 x hx).1, ih.1⟩, fun x hx => ?_⟩
    cases hx with
    | head => exact ⟨Nat.lt_succ_self _, _, ho, rfl⟩
    | tail _ hx => exact ⟨Nat.lt_succ_of_lt (ih.2 x hx).1, (ih.2 x hx).2⟩
theorem Good.entry {n : Nat} {done : Done} (h : Good E call all masks st0 n done) : ∀ i, i < n -> ∃ o e pr t, done = pr ++ (i, o.dst, e) :: t /\ all[i]? = some o /\ Good E call all masks st0 i t /\ (Goes E call all masks st0 i o e t \/ Skips o e t) := by
  induction h with
  | nil => intro i hi; exact absurd hi (Nat.not_lt_zero _)
  | cons hg ho hd hs ih =>
    rename_i i0 done0 o0 e0
    intro i hi
    by_cases heq : i = i0
    · subst heq
      exact ⟨_, _, [], _, rfl, ho, hg, hs⟩
    · obtain ⟨o, e, pr, t, h1, h2, h3, h4⟩ := ih i (by omega)
      exact ⟨o, e, _ :: pr, t, by rw [h1]; rfl, h2, h3, h4⟩
theorem Good.disj {n : Nat} {done : Done} (h : Good E call all masks st0 n done) : ∀ x ∈ done, ∀ y ∈ done, y.1 < x.1 -> (masks.getD x.1 0).testBit y.1 = false -> KDisj x.2.2 y.2.2 := by
  induction h with
  | nil => intro x hx; cases hx
  | cons hg ho hd hs ih =>
    intro x hx y hy hlt hm
    cases hx with
    | head =>
      cases hy with
      | head => exact absurd hlt (Nat.lt_irrefl _)
      | tail _ hy => exact disjE_spec hd y hy hm
    | tail _ hx =>
      cases hy with
      | head => have := (hg.desc.2 x hx).1; dsimp only at hlt; omega
      | tail _ hy => exact ih x hx y hy hlt hm
theorem bindMask_bit {o : Oper} {i k : Nat} (h : (bindMask o masks).testBit k = true) : ∃ e ∈ o.after, Region.binds .any e = true /\ (e.on = k \/ (masks.getD e.on 0).testBit k = true) := by
  have key : ∀ (l : List Edge) (s : Nat), (l.foldl (fun s e => bif Region.binds .any e then s ||| (2 ^ e.on ||| masks.getD e.on 0) else s) s).testBit k = true ->
      s.testBit k = true \/ ∃ e ∈ l, Region.binds .any e = true /\ (e.on = k \/ (masks.getD e.on 0).testBit k = true) := by
    intro l
    induction l with
    | nil => intro s h; exact .inl h
    | cons e l ih =>
      intro s h
      rw [List.foldl_cons] at h
      rcases ih _ h with q | ⟨e', he', q⟩
      · cases hb : Region.binds .any e with
        | false => rw [hb] at q; exact .inl q
        | true =>
          rw [hb] at q
          simp only [cond_true, Nat.testBit_or, Bool.or_eq_true, Nat.testBit_two_pow, decide_eq_true_eq] at q
          rcases q with q | q | q
          · exact .inl q
          · exact .inr ⟨e, List.mem_cons_self, hb, .inl q⟩
          · exact .inr ⟨e, List.mem_cons_self, hb, .inr q⟩
      · exact .inr ⟨e', List.mem_cons_of_mem _ he', q⟩
  rcases key _ _ h with q | ⟨e, he, q⟩
  · simp at q
  · exact ⟨e, by simpa using he, q⟩
structure DOk (E : Env) (ops : List Oper) (masks : List Nat) (i : Nat) (o : Oper) : Prop where
  lt : masks.getD i 0 < 2 ^ i
  bind : ∀ k, (masks.getD i 0).testBit k = true -> ∃ e ∈ o.after, Region.binds .any e = true /\ (e.on = k \/ (masks.getD e.on 0).testBit k = true)
  guard : ∀ j w, o.guard = some (j, w) -> (masks.getD i 0).testBit j = true /\ ∃ q d, ops[j]? = some q /\ q.dst = some d
  edge : ∀ e ∈ o.after, Region.binds .any e = true -> e.on < i
  dst : ∀ j q d, ops[j]? = some q -> i ≠ j -> o.dst = some d -> q.dst ≠ some d
  tmps : ∀ j q d, ops[j]? = some q -> i ≠ j -> q.dst = some d -> d ∈ tmpsOf o.op -> (masks.getD i 0).testBit j = true
  closed : ∀ j q, ops[j]? = some q -> i ≠ j -> (masks.getD i 0).testBit j = true -> ∀ k, (masks.getD j 0).testBit k = true -> (masks.getD i 0).testBit k = true
  wr : ∀ j q, ops[j]? = some q -> i ≠ j -> opW E q.op = true -> (opR o.op = true \/ opW E o.op = true) -> (masks.getD i 0).testBit j = true \/ (masks.getD j 0).testBit i = true \/ (opWU q.op = true /\ opW E o.op = false)
theorem drawOk_spec (h : drawOk E all masks = true) {i : Nat} {o : Oper} (hi : all[i]? = some o) : DOk E all masks i o := by
  unfold drawOk at h
  simp only [List.all_eq_true] at h
  have h1 := h (o, i) (List.mem_zipIdx_iff_getElem?.2 hi)
  simp only [Bool.and_eq_true, List.all_eq_true, Bool.or_eq_true] at h1
  obtain ⟨⟨⟨⟨a1, a2⟩, a3⟩, a4⟩, a5⟩ := h1
  have hpair : ∀ j q, all[j]? = some q -> i ≠ j -> _ := fun j q hj hne => (a5 (q, j) (List.mem_zipIdx_iff_getElem?.2 hj)).resolve_left (fun hb => hne (Nat.eq_of_beq_eq_true hb))
  refine ⟨blt_true a1, fun k hk => ?_, fun j w hg => ?_, fun e he hb => ?_, fun j q d hj hne hd => ?_, fun j q d hj hne hd hm => ?_, fun j q hj hne hb k hk => ?_, fun j q hj hne hw hrw => ?_⟩
  · have a2 := Nat.eq_of_beq_eq_true a2
    rw [<- a2, Nat.testBit_and, Bool.and_eq_true] at hk
    exact bindMask_bit (i := i) hk.2
  · rw [hg] at a3
    simp only [Bool.and_eq_true, bit] at a3
    refine ⟨a3.1, ?_⟩
    have := a3.2
    split at this
    · rename_i q hq
      obtain ⟨d, hd⟩ := Option.isSome_iff_exists.1 this
      exact ⟨q, d, hq, hd⟩
    · cases this
  · rcases a4 e (by simpa using he) with q | q
    · rw [hb] at q; cases q
    · exact blt_true q
  · obtain ⟨⟨⟨b1, b2⟩, b3⟩, b4⟩ := hpair j q hj hne
    rcases b1 with q' | q'
    · rw [hd] at q'; cases q'
    · rw [hd] at q'
      intro hq
      rw [hq] at q'
      simp at q'
  · obtain ⟨⟨⟨b1, b2⟩, b3⟩, b4⟩ := hpair j q hj hne
    rw [hd] at b2
    simp only [Bool.or_eq_true, Bool.not_eq_true', bit] at b2
    rcases b2 with q' | q'
    · have : (tmpsOf o.op).contains d = true := by simpa using hm
      rw [this] at q'; cases q'
    · exact q'
  · obtain ⟨⟨⟨b1, b2⟩, b3⟩, b4⟩ := hpair j q hj hne
    rcases b3 with q' | q'
    · simp only [Bool.not_eq_true', bit] at q'
      rw [hb] at q'; cases q'
    · have q' := Nat.eq_of_beq_eq_true q'
      rw [<- q', Nat.testBit_and, Bool.and_eq_true] at hk
      exact hk.2
  · obtain ⟨⟨⟨b1, b2⟩, b3⟩, b4⟩ := hpair j q hj hne
    rcases b4 with (q' | q') | q'
    · exfalso
      simp only [Bool.not_eq_true', Bool.and_eq_false_iff, Bool.or_eq_false_iff] at q'
      rcases q' with q' | ⟨q1, q2⟩
      · rw [hw] at q'; cases q'
      · rcases hrw with h | h
        · rw [h] at q1; cases q1
        · rw [h] at q2; cases q2
    · simp only [ordered, Bool.or_eq_true, bit] at q'
      exact q'.elim .inl (fun h => .inr (.inl h))
    · simp only [Bool.not_eq_true'] at q'
      exact .inr (.inr q')
end
end Go.Proofs.YtaflceohlijekaaGreat.Ev
namespace Go.Proofs.YtaflceohlijekaaGreat.Ev
theorem UCompat.of_eq {us us' : List (Nat × UE)} (h : ∀ k, getA us' k = getA us k) (G : Gh) (w : World) : UCompat us us' G G w w :=
  fun k en hk => ⟨en, (h k).trans hk, fun ep' e' xs' he => ⟨ep', xs', he, rfl, Nat.le_refl _, fun _ => ⟨rfl, fun _ _ _ _ h => h⟩⟩⟩
theorem VCompat.of_eq {vs vs' : List (Nat × List Lf)} (h : ∀ k, getA vs' k = getA vs k) (G : Gh) : VCompat vs vs' G G := fun r ls hr => ⟨ls, (h r).trans hr, rfl⟩
theorem Rel.seq {c : Cx} {st st' : St} {G : Gh} {w : World} {tm : Nat -> Value} (h : Rel c st G w tm) (hs : SEq st' st) : Rel c st' G w tm := by
  refine ⟨h.kept, fun k ep e xs hk => h.unit k _ _ _ ((hs.us k).symm.trans hk), fun k ep e xs hk => h.fUnit k _ _ _ ((hs.us k).symm.trans hk), fun r ls hr => ?_, fun r ls hr => h.vLt r ls ((hs.vs r).symm.trans hr), fun r ls hr => h.fVar r ls ((hs.vs r).symm.trans hr),
    fun k1 k2 ep1 e1 xs1 ep2 e2 xs2 h1 h2 => h.dUU k1 k2 _ _ _ _ _ _ ((hs.us _).symm.trans h1) ((hs.us _).symm.trans h2), fun k ep e xs r ls hk hr => h.dUV k _ _ _ r ls ((hs.us _).symm.trans hk) ((hs.vs _).symm.trans hr), fun r1 r2 l1 l2 h1 h2 => h.dVV r1 r2 l1 l2 ((hs.vs _).symm.trans h1) ((hs.vs _).symm.trans h2), fun t v hv => ?_, h.pin⟩
  · obtain ⟨vs, a, b⟩ := h.var r ls ((hs.vs r).symm.trans hr)
    exact ⟨vs, a.carry (UCompat.of_eq hs.us G w), b⟩
  · exact (h.slot t v ((hs.sl t).symm.trans hv)).carry (UCompat.of_eq hs.us G w) (VCompat.of_eq hs.vs G)
theorem noUs_of {st : St} {op : Op} (h : opR op = false) : noUs st op = true := by
  unfold noUs
  split
  · simp [opR] at h
  · simp [opR] at h
  · simp [opR] at h
  · rw [h]; rfl
section
variable {P : Program} {E : Env} {tk : Nat -> Bool} {c : Cx} {G G' : Gh} {w w' : World} {a : Act} {Q : Exit -> Act -> World -> Prop} {tm : Nat -> Value}
variable {R : Type} {call : E.Call} {k : St -> Option R} {r : R} {p : Plan E} {e : Eff} {st st' st0 : St} {o : Oper} {ops : List Oper} {masks : List Nat} {done : Done}
theorem Good.eff (hg : Good E call ops masks st0 ops.length done) (hdr : drawOk E ops masks = true) {i : Nat} (hi : i < ops.length) :
    ∃ o e, ops[i]? = some o /\ (i, o.dst, e) ∈ done /\ (Skips o e done \/ ((o.guard = none \/ ∃ j w nv nu d, o.guard = some (j, w) /\ (j, d, ⟨.v false [.bool w], nv, nu⟩) ∈ done) /\ (needNoUs E ops masks o i = false \/ noUs (stP st0 (masks.getD i 0).testBit done) o.op = true) /\
      ∃ p, pre E o (stP st0 (masks.getD i 0).testBit done) = some p /\ Gives call p e)) /\ (Skips o e done -> ∃ j w v nv nu d, o.guard = some (j, w) /\ GNo w v /\ (j, d, ⟨v, nv, nu⟩) ∈ done) := by
  obtain ⟨o, e, pr, t, h1, h2, h3, h4⟩ := hg.entry i hi
  have hdo := drawOk_spec hdr h2
  have hstate : stAt st0 (masks.getD i 0) t = stP st0 (masks.getD i 0).testBit done := by
    rw [stAt_stP, h1]
    have hbit : ∀ j, i <= j -> (masks.getD i 0).testBit j = false := fun j hj => Nat.testBit_lt_two_pow (Nat.lt_of_lt_of_le hdo.lt (Nat.pow_le_pow_right (by omega) hj))
    have hd := hg.desc.1
    rw [h1] at hd
    have hpr := (List.pairwise_append.1 hd).2.2
    rw [stP_above (fun x hx => hbit _ (Nat.le_of_lt (hpr x hx _ (List.mem_cons_self))))]
    simp only [stP, hbit i (Nat.le_refl _), cond_false]
  have hsub : ∀ x ∈ t, x ∈ done := fun x hx => by rw [h1]; exact List.mem_append_right _ (List.mem_cons_of_mem _ hx)
  have heff : ∀ {j : Nat} {e' : Eff}, effAt t j = some e' -> ∃ d, (j, d, e') ∈ done := fun h => by
    obtain ⟨d, hd⟩ := effAt_mem h
    exact ⟨d, hsub _ hd⟩
  have hdesc := hg.desc.1
  refine ⟨o, e, h2, by rw [h1]; simp, ?_, ?_⟩
  · rcases h4 with ⟨q1, q2, q3⟩ | q
    · rw [hstate] at q2 q3
      refine .inr ⟨q1.imp id fun ⟨j, w, nv, nu, g1, g2⟩ => ?_, q2, q3⟩
      obtain ⟨d, hd⟩ := heff g2
      exact ⟨j, w, nv, nu, d, g1, hd⟩
    · refine .inl ⟨q.1, ?_⟩
      obtain ⟨j, w, v, nv, nu, g1, g3, g2⟩ := q.2
      refine ⟨j, w, v, nv, nu, g1, g3, ?_⟩
      obtain ⟨d, hd⟩ := heff g2
      have : ∀ {l : Done}, Desc l -> (j, d, (⟨v, nv, nu⟩ : Eff)) ∈ l -> effAt l j = some ⟨v, nv, nu⟩ := by
        intro l
        induction l with
        | nil => intro _ h; cases h
        | cons x l ih =>
          intro hp hm
          rw [Desc, List.pairwise_cons] at hp
          obtain ⟨y, dy, ey⟩ := x
          cases hm with
          | head => simp [effAt, Nat.beq_refl]
          | tail _ hm =>
            have := hp.1 _ hm
            dsimp only at this
            have hb : Nat.beq y j = false := by
              cases hb : Nat.beq y j with
              | true => have := Nat.eq_of_beq_eq_true hb; omega
              | false => rfl
            simp only [effAt, hb, cond_false]
            exact ih hp.2 hm
      exact this hdesc hd
  · intro q
    obtain ⟨_, j, w, v, nv, nu, g1, g3, g2⟩ := q
    obtain ⟨d, hd⟩ := effAt_mem g2
    exact ⟨j, w, v, nv, nu, d, g1, g3, hd⟩
theorem Good.uniq (hg : Good E call ops masks st0 ops.length done) {x y : Nat × Option Nat × Eff} (hx : x ∈ done) (hy : y ∈ done) (h : x.1 = y.1) : x = y := by
  have : ∀ {l : Done}, Desc l -> x ∈ l -> y ∈ l -> x = y := by
    intro l
    induction l with
    | nil => intro _ h; cases h
    | cons z l ih =>
      intro hp h1 h2
      rw [Desc, List.pairwise_cons] at hp
      simp only [List.mem_cons] at h1 h2
      rcases h1 with rfl | h1 <;> rcases h2 with rfl | h2
      · rfl
      · have := hp.1 _ h2; omega
      · have := hp.1 _ h1; omega
      · exact ih hp.2 h1 h2
  exact this hg.desc.1 hx hy
theorem Good.apart (hg : Good E call ops masks st0 ops.length done) {x y : Nat × Option Nat × Eff} (hx : x ∈ done) (hy : y ∈ done) (hne : x.1 ≠ y.1) (h1 : (masks.getD x.1 0).testBit y.1 = false) (h2 : (masks.getD y.1 0).testBit x.1 = false) : KDisj x.2.2 y.2.2 := by
  rcases Nat.lt_or_ge y.1 x.1 with q | q
  · exact hg.disj x hx y hy q h1
  · exact (hg.disj y hy x hx (by omega) h2).symm
theorem Good.fresh (htk : ∀ t, tk t = true -> TyOk P E t) (hg : Good E call ops masks st0 ops.length done) (hdr : drawOk E ops masks = true) {N : Nat} {np : Nat -> Bool} (hok : opsOk P E tk np N ops = true) {i j : Nat} {o q : Oper} {d : Option Nat} {e : Eff} (hi : ops[i]? = some o) (hj : ops[j]? = some q) (hm : (j, d, e) ∈ done)
    (hw : opW E q.op = false) (hij : (masks.getD i 0).testBit j = false) : (∀ k, getA (stP st0 (masks.getD i 0).testBit done).us k ≠ none -> getA e.nu k = none) /\ ∀ k, getA (stP st0 (masks.getD i 0).testBit done).vs k ≠ none -> getA e.nv k = none := by
  obtain ⟨q', e', h1, h2, h3, _⟩ := hg.eff hdr (List.getElem?_eq_some_iff.1 hj).1
  rw [hj] at h1
  cases h1
  have := hg.uniq hm h2 rfl
  cases this
  have hdi := drawOk_spec hdr hi
  rcases h3 with ⟨rfl, _⟩ | ⟨_, _, p, hp, hgv⟩
  · exact ⟨fun _ _ => rfl, fun _ _ => rfl⟩
  · have hck : opOk P E tk q = true := by
      unfold opsOk at hok
      rw [List.all_eq_true] at hok
      have := hok q (List.mem_of_getElem? hj)
      simp only [Bool.and_eq_true] at this
      exact this.1
    obtain ⟨f1, f2⟩ := pre_fresh htk hck hw hp hgv
    have hap : ∀ x ∈ done, (masks.getD i 0).testBit x.1 = true -> (masks.getD j 0).testBit x.1 = false -> KDisj e x.2.2 := by
      intro x hx hix hjx
      have hne : j ≠ x.1 := fun h => by rw [h, hix] at hij; cases hij
      obtain ⟨hxl, o', ho', _⟩ := hg.desc.2 x hx
      have hxi : i ≠ x.1 := fun h => by
        rw [<- h] at hix
        rw [Nat.testBit_lt_two_pow hdi.lt] at hix
        cases hix
      refine hg.apart hm hx hne hjx ?_
      cases hb : (masks.getD x.1 0).testBit j with
      | false => rfl
      | true => have := hdi.closed x.1 o' ho' hxi hix j hb; rw [hij] at this; cases this
    refine ⟨fun k hk => ?_, fun k hk => ?_⟩
    · cases hq : getA e.nu k with
      | none => rfl
      | some v =>
        exfalso
        have hn := f2 k (by rw [hq]; exact fun h => by cases h)
        rw [stP_us] at hk
        rcases hk with hk | ⟨x, hx, hix, hk⟩
        · exact (stP_us.2 (.inl hk)) hn
        · cases hjx : (masks.getD j 0).testBit x.1 with
          | true => exact (stP_us.2 (.inr ⟨x, hx, hjx, hk⟩)) hn
          | false => exact hk ((hap x hx hix hjx).2 k (by rw [hq]; exact fun h => by cases h))
    · cases hq : getA e.nv k with
      | none => rfl
      | some v =>
        exfalso
        have hn := f1 k (by rw [hq]; exact fun h => by cases h)
        rw [stP_vs] at hk
        rcases hk with hk | ⟨x, hx, hix, hk⟩
        · exact (stP_vs.2 (.inl hk)) hn
        · cases hjx : (masks.getD j 0).testBit x.1 with
          | true => exact (stP_vs.2 (.inr ⟨x, hx, hjx, hk⟩)) hn
          | false => exact hk ((hap x hx hix hjx).1 k (by rw [hq]; exact fun h => by cases h))
theorem Good.at (htk : ∀ t, tk t = true -> TyOk P E t) (hg : Good E call ops masks st0 ops.length done) (hdr : drawOk E ops masks = true) {N : Nat} {np : Nat -> Bool} (hok : opsOk P E tk np N ops = true) {i : Nat} {o : Oper} {e : Eff} {L : Nat -> Bool} (hi : ops[i]? = some o) (hm : (i, o.dst, e) ∈ done)
    (hcl : ∀ i, L i = true -> ∀ j, (masks.getD i 0).testBit j = true -> L j = true) (hLi : L i = false) (hML : ∀ j, (masks.getD i 0).testBit j = true -> L j = true)
    (hu : needNoUs E ops masks o i = false \/ noUs (stP st0 (masks.getD i 0).testBit done) o.op = true) (hp : pre E o (stP st0 (masks.getD i 0).testBit done) = some p) (hgv : Gives call p e) : ∃ p', pre E o (stP st0 L done) = some p' /\ Gives call p' e := by
  have hdi := drawOk_spec hdr hi
  have hun : ∀ j, L j = true -> (masks.getD j 0).testBit i = false := fun j hj => by
    cases hb : (masks.getD j 0).testBit i with
    | false => rfl
    | true => have := hcl j hj i hb; rw [hLi] at this; cases this
  have hnew : ∀ x ∈ done, L x.1 = true -> (masks.getD i 0).testBit x.1 = false -> KDisj e x.2.2 := fun x hx hL hx2 => hg.apart hm hx (fun h => by rw [<- h, hLi] at hL; cases hL) hx2 (hun _ hL)
  have hnotW : ∀ (hR : opR o.op = true) (x) (_ : x ∈ done) (_ : L x.1 = true) (_ : (masks.getD i 0).testBit x.1 = false) (q : Oper), ops[x.1]? = some q -> opW E q.op = false \/ (opWU q.op = true /\ opW E q.op = true) := by
    intro hR x hx hL hx2 q hq
    cases hw : opW E q.op with
    | false => exact .inl rfl
    | true =>
      have hne : i ≠ x.1 := fun h => by rw [<- h, hLi] at hL; cases hL
      rcases hdi.wr x.1 q hq hne hw (.inl hR) with h | h | h
      · rw [hx2] at h; cases h
      · rw [hun _ hL] at h; cases h
      · exact .inr ⟨h.1, rfl⟩
  refine pre_mono (st := stP st0 (masks.getD i 0).testBit done) ?_ ?_ ?_ ?_ ?_ hp hgv
  · cases hR : opR o.op with
    | false => exact .inl (noUs_of hR)
    | true =>
      rcases hu with hu | hu
      · refine .inr (stP_subU hML fun x hx hL hx2 => ?_)
        obtain ⟨_, q, hq, hqd⟩ := hg.desc.2 x hx
        rcases hnotW hR x hx hL hx2 q hq with hw | ⟨hw1, hw2⟩
        · exact (hg.fresh htk hdr hok hi hq (show (x.1, x.2.1, x.2.2) ∈ done from hx) hw hx2).1
        · exfalso
          have hne : i ≠ x.1 := fun h => by rw [<- h, hLi] at hL; cases hL
          simp only [needNoUs, hR, Bool.true_and, List.any_eq_false] at hu
          have := hu (q, x.1) (List.mem_zipIdx_iff_getElem?.2 hq)
          simp only [hw1, hw2, Bool.and_true, ordered, bit, hx2, hun _ hL, Bool.or_self, Bool.not_false, Bool.not_eq_true', Bool.not_eq_true, Bool.not_eq_false'] at this
          exact hne (Nat.eq_of_beq_eq_true (by simpa using this))
      · exact .inl hu
  · cases hR : opR o.op with
    | false => exact .inl rfl
    | true =>
      refine .inr (stP_subV hML fun x hx hL hx2 => ?_)
      obtain ⟨hxl, q, hq, hqd⟩ := hg.desc.2 x hx
      rcases hnotW hR x hx hL hx2 q hq with hw | ⟨hw1, hw2⟩
      · exact (hg.fresh htk hdr hok hi hq (show (x.1, x.2.1, x.2.2) ∈ done from hx) hw hx2).2
      · intro k _
        obtain ⟨q', e', h1, h2, h3, _⟩ := hg.eff hdr hxl
        rw [hq] at h1
        cases h1
        have := hg.uniq hx h2 rfl
        rcases h3 with ⟨h3, _⟩ | ⟨_, _, p2, hp2, hgv2⟩
        · rw [this, h3]; rfl
        · rw [this]
          have := pre_noV hw1 hp2 hgv2
          dsimp only
          rw [this]; rfl
  · intro x hx t ht
    refine (stP_slot fun y hy hyt => ?_).symm
    obtain ⟨_, q, hq, hqd⟩ := hg.desc.2 y hy
    by_cases hyi : i = y.1
    · rw [<- hyi, hLi]
      exact Nat.testBit_lt_two_pow hdi.lt
    · have : t ∈ tmpsOf o.op := by
        unfold tmpsOf
        exact List.mem_filterMap.2 ⟨x, hx, by rw [ht]⟩
      have := hdi.tmps y.1 q t hq hyi (hqd ▸ hyt) this
      rw [this, hML _ this]
  · intro k hk hn
    cases hq : getA (stP st0 L done).us k with
    | none => rfl
    | some v =>
      exfalso
      have hne : getA (stP st0 L done).us k ≠ none := by rw [hq]; exact fun h => by cases h
      rw [stP_us] at hne
      rcases hne with h | ⟨x, hx, hL, h⟩
      · exact stP_us.2 (.inl h) hn
      · cases hx2 : (masks.getD i 0).testBit x.1 with
        | true => exact stP_us.2 (.inr ⟨x, hx, hx2, h⟩) hn
        | false => exact h ((hnew x hx hL hx2).2 k hk)
  · intro k hk hn
    cases hq : getA (stP st0 L done).vs k with
    | none => rfl
    | some v =>
      exfalso
      have hne : getA (stP st0 L done).vs k ≠ none := by rw [hq]; exact fun h => by cases h
      rw [stP_vs] at hne
      rcases hne with h | ⟨x, hx, hL, h⟩
      · exact stP_vs.2 (.inl h) hn
      · cases hx2 : (masks.getD i 0).testBit x.1 with
        | true => exact stP_vs.2 (.inr ⟨x, hx, hx2, h⟩) hn
        | false => exact h ((hnew x hx hL hx2).1 k hk)
end
end Go.Proofs.YtaflceohlijekaaGreat.Ev
namespace Go.Proofs.YtaflceohlijekaaGreat.Ev
section
variable {P : Program} {E : Env} {tk : Nat -> Bool} {c : Cx} {G G' : Gh} {w w' : World} {a : Act} {Q : Exit -> Act -> World -> Prop} {tm : Nat -> Value}
variable {R : Type} {call : E.Call} {k : St -> Option R} {r : R} {p : Plan E} {e : Eff} {st st' st0 : St} {o : Oper} {ops : List Oper} {masks : List Nat} {done : Done}
theorem listed_false {listed : Array Bool} {i : Nat} (h : listed.getD i true = false) : i < listed.size /\ listed[i]? = some false /\ listed.getD i false = false := by
  rw [Array.getD_eq_getD_getElem?] at h ⊢
  rcases Nat.lt_or_ge i listed.size with q | q
  · rw [Array.getElem?_eq_getElem q] at h ⊢
    simp only [Option.getD_some] at h
    exact ⟨q, by rw [h], by simpa using h⟩
  · rw [Array.getElem?_eq_none q] at h
    cases h
theorem ready_nil (hdr : drawOk E ops masks = true) {listed : Array Bool} (hs : listed.size = ops.length) (h : Region.ready .any ops.toArray listed = []) : ∀ i, i < ops.length -> listed.getD i false = true := by
  intro i
  induction i using Nat.strongRecOn with
  | _ i ih =>
    intro hi
    cases hb : listed.getD i false with
    | true => rfl
    | false =>
      exfalso
      have hr : i ∈ Region.ready .any ops.toArray listed := by
        refine mem_ready.2 ⟨?_, ops[i], by simp [hi], fun e he hbe => ?_⟩
        · rw [Array.getD_eq_getD_getElem?] at hb ⊢
          rw [Array.getElem?_eq_getElem (by omega)] at hb ⊢
          simpa using hb
        · have := (drawOk_spec hdr (List.getElem?_eq_getElem hi)).edge e he hbe
          exact ih e.on this (by omega)
      rw [h] at hr
      cases hr
theorem count_step {listed : Array Bool} {i : Nat} (h : listed[i]? = some false) : (listed.setIfInBounds i true).toList.count false + 1 = listed.toList.count false := by
  have hi : i < listed.size := by
    rcases Nat.lt_or_ge i listed.size with q | q
    · exact q
    · rw [Array.getElem?_eq_none q] at h; cases h
  have hi2 : i < listed.toList.length := by simpa using hi
  have hv : listed.toList[i] = false := by
    rw [Array.getElem?_eq_getElem hi] at h
    simpa using h
  have hpos : 0 < listed.toList.count false := List.count_pos_iff.2 (by rw [<- hv]; exact List.getElem_mem hi2)
  rw [Array.toList_setIfInBounds, List.count_set hi2, hv]
  simp
  have : 0 < Array.count false listed := by simpa using hpos
  omega
theorem draw_any (htk : ∀ t, tk t = true -> TyOk P E t) (hspec : ∀ f x r, call f x = some r -> FnSpec P E f x r) {np : Nat -> Bool} (hnp : ∀ d, np d = false -> c.pin d = none) (hdr : drawOk E ops masks = true) (hg : Good E call ops masks st0 ops.length done) {N : Nat} {D : List Deferred} (hok : opsOk P E tk np N ops = true)
    (hfin : ∀ G' a' w', Rel c (stP st0 (fun _ => true) done) G' w' (tmOf a') -> a'.defers = D -> a'.tmps.size = N -> Q .normal a' w') :
    ∀ (fuel : Nat) (listed : Array Bool) (a : Act) (w : World) (G : Gh), listed.size = ops.length -> listed.toList.count false <= fuel -> (∀ i, listed.getD i false = true -> ∀ j, (masks.getD i 0).testBit j = true -> listed.getD j false = true) ->
      Rel c (stP st0 (fun j => listed.getD j false) done) G w (tmOf a) -> a.defers = D -> a.tmps.size = N -> wpAny P .any ops.toArray Q fuel listed a w := by
  have hnorm : ∀ (listed : Array Bool) (a : Act) (w : World) (G : Gh), listed.size = ops.length -> Rel c (stP st0 (fun j => listed.getD j false) done) G w (tmOf a) -> a.defers = D -> a.tmps.size = N -> Region.ready .any ops.toArray listed = [] -> Q .normal a w := by
    intro listed a w G hs h hd hN hr
    have hall := ready_nil hdr hs hr
    rw [stP_congr (L' := fun _ => true) (fun x hx => hall _ (hg.desc.2 x hx).1)] at h
    exact hfin G a w h hd hN
  intro fuel
  induction fuel with
  | zero =>
    intro listed a w G hs hcnt hcl h hd hN
    have hr : Region.ready .any ops.toArray listed = [] := by
      cases hq : Region.ready .any ops.toArray listed with
      | nil => rfl
      | cons i t =>
        have hi : i ∈ Region.ready .any ops.toArray listed := by rw [hq]; simp
        have := count_step (listed_false (mem_ready.1 hi).1).2.1
        omega
    exact ⟨hr, hnorm listed a w G hs h hd hN hr⟩
  | succ fuel ih =>
    intro listed a w G hs hcnt hcl h hd hN
    refine ⟨hnorm listed a w G hs h hd hN, fun i hi => ?_⟩
    obtain ⟨hun, o, ho, hedge⟩ := mem_ready.1 hi
    obtain ⟨hil, hif, hLi⟩ := listed_false hun
    have ho' : ops[i]? = some o := by simpa using ho
    have hin : i < ops.length := (List.getElem?_eq_some_iff.1 ho').1
    have hdi := drawOk_spec hdr ho'
    have hML : ∀ j, (masks.getD i 0).testBit j = true -> listed.getD j false = true := by
      intro j hj
      obtain ⟨e, he, hb, q⟩ := hdi.bind j hj
      have h1 := hedge e he hb
      rcases q with q | q
      · rw [<- q]; exact h1
      · exact hcl _ h1 j q
    obtain ⟨o2, e, ho2, hm, hcase, hskip⟩ := hg.eff hdr hin
    rw [ho'] at ho2
    cases ho2
    have hcond : opOk P E tk o = true /\ ∀ d, o.dst = some d -> d < a.tmps.size /\ c.pin d = none := by
      unfold opsOk at hok
      rw [List.all_eq_true] at hok
      have := hok o (List.mem_of_getElem? ho')
      simp only [Bool.and_eq_true] at this
      refine ⟨this.1, fun d hd => ?_⟩
      have h2 := this.2
      rw [hd] at h2
      simp only [Bool.and_eq_true] at h2
      exact ⟨by rw [hN]; exact blt_true h2.1, hnp d (by simpa using h2.2)⟩
    have hset : ∀ j, j ≠ i -> (listed.setIfInBounds i true).getD j false = listed.getD j false := fun j hj => getD_set_ne false (Ne.symm hj)
    have hset1 : (listed.setIfInBounds i true).getD i false = true := by
      rw [Array.getD_eq_getD_getElem?]
      simp [hil]
    have hcl' : ∀ k, (listed.setIfInBounds i true).getD k false = true -> ∀ j, (masks.getD k 0).testBit j = true -> (listed.setIfInBounds i true).getD j false = true := by
      intro k hk j hj
      by_cases hki : k = i
      · subst hki
        exact getD_set_true (hML j hj)
      · rw [hset k hki] at hk
        exact getD_set_true (hcl k hk j hj)
    have hgo : ∀ (G' : Gh) (a' : Act) (w' : World), Rel c (e.apply o.dst (stP st0 (fun j => listed.getD j false) done)) G' w' (tmOf a') -> a'.defers = D -> a'.tmps.size = N -> wpAny P .any ops.toArray Q fuel (listed.setIfInBounds i true) a' w' := by
      intro G' a' w' h' hd' hN'
      refine ih _ a' w' G' (by simp [hs]) (by have := count_step hif; omega) hcl' ?_ hd' hN'
      refine h'.seq (stP_add (i := i) hLi hset1 hset hg.desc.1 hm fun x hx hlt hL => ⟨?_, fun y hy hoy => ?_⟩)
      · refine hg.disj x hx _ hm hlt ?_
        cases hb : (masks.getD x.1 0).testBit i with
        | false => rfl
        | true => have := hcl x.1 hL i hb; rw [hLi] at this; cases this
      · obtain ⟨_, q, hq, hqd⟩ := hg.desc.2 x hx
        exact hdi.dst x.1 q y hq (by omega) hoy (hqd ▸ hy)
    have hslot : ∀ {j : Nat} {wt : Bool} {v : AV} {nv : List (Nat × List Lf)} {nu : List (Nat × UE)} {d : Option Nat}, o.guard = some (j, wt) -> (j, d, (⟨v, nv, nu⟩ : Eff)) ∈ done -> ∃ q dd, ops[j]? = some q /\ q.dst = some dd /\ VRel c (stP st0 (fun j => listed.getD j false) done).us (stP st0 (fun j => listed.getD j false) done).vs G w v (tmOf a dd) := by
      intro j wt v nv nu d hgd hmem
      obtain ⟨hbit, q, dd, hq, hqd⟩ := hdi.guard j wt hgd
      obtain ⟨_, q2, hq2, hd2⟩ := hg.desc.2 _ hmem
      dsimp only at hq2 hd2
      rw [hq] at hq2
      cases hq2
      rw [hqd] at hd2
      subst hd2
      have hslot := stP_own (st0 := st0) (L := fun j => listed.getD j false) (hML j hbit) hg.desc.1 hmem (fun x hx hxd => by
        obtain ⟨_, q3, hq3, hd3⟩ := hg.desc.2 x hx
        by_cases hne : x.1 = j
        · exact hne
        · exact absurd (hd3 ▸ hxd) ((drawOk_spec hdr hq).dst x.1 q3 dd hq3 (Ne.symm hne) hqd))
      exact ⟨q, dd, hq, hqd, h.slot dd _ hslot⟩
    have hguardN : ∀ {j : Nat} {wt : Bool} {nv : List (Nat × List Lf)} {nu : List (Nat × UE)} {d : Option Nat}, o.guard = some (j, wt) -> (j, d, (⟨.no, nv, nu⟩ : Eff)) ∈ done -> Region.wanted o (yielded ops.toArray a.tmps) = false := by
      intro j wt nv nu d hgd hmem
      obtain ⟨q, dd, hq, hqd, hv⟩ := hslot hgd hmem
      have hy := yielded_undef (a := a) hq hqd hv
      simp only [Region.wanted, hgd, hy]
      rfl
    have hguard : ∀ {j : Nat} {wt b : Bool} {nv : List (Nat × List Lf)} {nu : List (Nat × UE)} {d : Option Nat}, o.guard = some (j, wt) -> (j, d, (⟨.v false [.bool b], nv, nu⟩ : Eff)) ∈ done -> Region.wanted o (yielded ops.toArray a.tmps) = (b == wt) := by
      intro j wt b nv nu d hgd hmem
      obtain ⟨q, dd, hq, hqd, hv⟩ := hslot hgd hmem
      have htm : tmOf a dd = .bool b := v_bool hv
      have hy := yielded_of (a := a) hq hqd htm
      simp only [Region.wanted, hgd, hy]
      cases b <;> cases wt <;> rfl
    unfold wpOp
    simp only [ho]
    rcases hcase with hs1 | ⟨hg1, hu, p, hp, hgv⟩
    · obtain ⟨j, wt, v, nv, nu, d, g1, g3, g2⟩ := hskip hs1
      have : Region.wanted o (yielded ops.toArray a.tmps) = false := by
        rcases g3 with rfl | rfl
        · rw [hguard g1 g2]; cases wt <;> rfl
        · exact hguardN g1 g2
      rw [if_neg (by rw [this]; simp)]
      obtain ⟨rfl, _⟩ := hs1
      exact hgo G _ w (put_rel (e := ⟨.no, [], []⟩) h rfl hcond.2) ((put_keeps _ _ _).1.trans hd) ((put_keeps _ _ _).2.trans hN)
    · have hw : Region.wanted o (yielded ops.toArray a.tmps) = true := by
        rcases hg1 with hg1 | ⟨j, wt, nv, nu, d, g1, g2⟩
        · simp [Region.wanted, hg1]
        · rw [hguard g1 g2]; cases wt <;> rfl
      rw [if_pos hw]
      obtain ⟨p', hp', hgv'⟩ := hg.at htk hdr hok ho' hm hcl hLi hML hu hp hgv
      refine .inl ?_
      classical
      refine op_sound (R := Unit) (k := fun e' => if e' = e then some () else none) (r := ()) htk hcond.1 h hcond.2 (fun e' he' => ?_) hspec hp' (run_of_gives hgv' (by simp))
      by_cases hee : e' = e
      · subst hee
        exact fun G' a' w' h' hd' hN' => hgo G' a' w' h' (hd'.trans hd) (hN'.trans hN)
      · simp [hee] at he'
theorem stP_none (st0 : St) : ∀ (done : Done), stP st0 (fun _ => false) done = st0
  | [] => rfl
  | (j, d, e) :: t => by simp only [stP, cond_false]; exact stP_none st0 t
theorem stP_vs_same {st0 : St} {L : Nat -> Bool} : ∀ {done : Done}, (∀ x ∈ done, x.2.2.nv = []) -> (stP st0 L done).vs = st0.vs
  | [], _ => rfl
  | (j, d, e) :: t, h => by
    have ih := stP_vs_same (st0 := st0) (L := L) (done := t) (fun x hx => h x (List.mem_cons_of_mem _ hx))
    have he := h (j, d, e) (List.mem_cons_self)
    dsimp only at he
    simp only [stP]
    cases L j with
    | true => show e.nv ++ (stP st0 L t).vs = _; rw [he]; exact ih
    | false => exact ih
theorem Good.ext (hg : Good E call ops masks st0 ops.length done) (hdr : drawOk E ops masks = true) (hq : ∀ o ∈ ops, opQuiet o.op = true /\ quietCall E o.op = true /\ ∀ x, o.dst = some x -> x ∈ ops.filterMap (·.dst)) : Ext st0 (stP st0 (fun _ => true) done) (ops.filterMap (·.dst)) := by
  have heff : ∀ x ∈ done, x.2.2.nv = [] /\ ∀ k, getA st0.us k ≠ none -> getA x.2.2.nu k = none := by
    intro x hx
    obtain ⟨hxl, o, ho, _⟩ := hg.desc.2 x hx
    obtain ⟨o', e', h1, h2, h3, _⟩ := hg.eff hdr hxl
    have hxe := hg.uniq hx h2 rfl
    rcases h3 with ⟨h3, _⟩ | ⟨_, _, p, hp, hgv⟩
    · rw [hxe, h3]; exact ⟨rfl, fun _ _ => rfl⟩
    · have hqo := hq o' (List.mem_of_getElem? h1)
      have := (pre_quiet hqo.1 hqo.2.1 hp).gives hgv
      rw [hxe]
      refine ⟨this.1, fun k hk => ?_⟩
      cases hn : getA e'.nu k with
      | none => rfl
      | some v => exact absurd (this.2 k (by rw [hn]; exact fun h => by cases h)) (stP_us.2 (.inl hk))
  refine ⟨?_, stP_vs_same fun x hx => (heff x hx).1, fun t ht => ?_⟩
  · have := stP_subU (st0 := st0) (L1 := fun _ => false) (L2 := fun _ => true) (fun _ h => by cases h) (done := done) (fun x hx _ _ k hk => (heff x hx).2 k (by rwa [stP_none] at hk))
    rwa [stP_none] at this
  · have := stP_slot (st0 := st0) (L1 := fun _ => true) (L2 := fun _ => false) (s := t) (done := done) (fun x hx hxt => by
      obtain ⟨_, o, ho, hd⟩ := hg.desc.2 x hx
      exact absurd ((hq o (List.mem_of_getElem? ho)).2.2 t (hd ▸ hxt)) ht)
    rwa [stP_none] at this
theorem evRegD_sound (hm : P.follows .mixedOrders = true) (htk : ∀ t, tk t = true -> TyOk P E t) (hspec : ∀ f x r, call f x = some r -> FnSpec P E f x r) {np : Nat -> Bool} (hnp : ∀ d, np d = false -> c.pin d = none) {ops : Array Oper} {id : Nat} (hok : opsOk P E tk np a.tmps.size ops.toList = true) (h : Rel c st G w (tmOf a))
    (he : evRegD E call ops st k = some r) (hk : Then c a (Q .normal) k r) : (Code.region id ops true).wp P Q a w := by
  unfold evRegD at he
  dsimp only at he
  cases hdr : drawOk E ops.toList (Region.before ops).toList with
  | false => rw [hdr] at he; cases he
  | true =>
    rw [hdr] at he
    simp only [cond_true] at he
    have hlen : (2 ^ ops.toList.length - 1) = 2 ^ ops.toList.length - 1 := rfl
    have hfull : ∀ {done : Done}, (∀ x ∈ done, x.1 < ops.toList.length) -> stAt st (2 ^ ops.toList.length - 1) done = stP st (fun _ => true) done := by
      intro done hd
      rw [stAt_stP]
      refine stP_congr fun x hx => ?_
      rw [Nat.testBit_two_pow_sub_one]
      simpa using hd x hx
    have run : ∀ {done : Done}, Good E call ops.toList (Region.before ops).toList st ops.toList.length done -> (∀ G' a' w', Rel c (stP st (fun _ => true) done) G' w' (tmOf a') -> a'.defers = a.defers -> a'.tmps.size = a.tmps.size -> Q .normal a' w') -> (Code.region id ops true).wp P Q a w := by
      intro done hg hfin
      refine wp_region_any hm ?_
      have := draw_any (P := P) (Q := Q) htk hspec hnp hdr hg hok hfin ops.size (Array.replicate ops.size false) a { w with drawn := w.drawn + 1 } G (by simp) (by simp) (fun i hi => ?_) ?_ rfl rfl
      · simpa using this
      · simp [Array.getD_eq_getD_getElem?, Array.getElem?_replicate] at hi
        split at hi <;> simp at hi
      · have e : stP st (fun j => (Array.replicate ops.size false).getD j false) done = st := by
          rw [stP_congr (L' := fun _ => false) (fun x hx => ?_)]
          · exact stP_none st done
          · rw [Array.getD_eq_getD_getElem?, Array.getElem?_replicate]
            split <;> rfl
        rw [e]
        exact (h.upd (w' := w.drew) (Fw := fun _ => False) (Cw := fun _ _ => False) (fun _ => False) (fun _ => False) (us' := st.us) (vs' := st.vs) (G' := G) (KeptW.drew _ _ w) (fun _ _ q => q.elim) (fun _ _ _ q => q.elim) (fun _ _ => ⟨rfl, rfl, rfl⟩) (fun _ _ => ⟨rfl, rfl⟩)
          (fun _ _ _ _ q => q.elim) (fun _ _ _ _ _ _ _ _ q => q.elim) (fun _ _ q => q.elim) (fun _ _ q => q.elim) (fun _ _ _ _ q => q.elim) (fun _ _ _ _ _ _ q => q.elim) (fun _ _ q => q.elim)).1
    split at he
    · obtain ⟨done, hg, h2⟩ := evD_good _ _ _ .nil (by simp) (Nat.zero_le _) he
      refine run hg fun G' a' w' h' hd hN => ?_
      rw [hfull (fun x hx => (hg.desc.2 x hx).1)] at h2
      exact hk _ G' a' w' h2 h' hd hN
    · rename_i d hj
      split at he
      · rename_i b hb
        obtain ⟨done, hg, h2⟩ := evD_good _ _ _ .nil (by simp) (Nat.zero_le _) hb
        refine run hg fun G' a' w' h' hd hN => ?_
        rw [hfull (fun x hx => (hg.desc.2 x hx).1)] at h2
        exact hk _ G' a' w' he (h.joined h' (hg.ext hdr (joinable_quiet hj)) h2) hd hN
      · cases he
theorem rest (hm : P.follows .mixedOrders = true) (htk : ∀ t, tk t = true -> TyOk P E t) (np : Nat -> Bool) (c : Cx) (hnp : ∀ d, np d = false -> c.pin d = none) : Rest P E tk np c where
  draw := fun hspec ops id st G w a k r Q hok h he hk => evRegD_sound hm htk hspec hnp hok h he hk
  canon := fun live st G w tm h => h.canon live
end
end Go.Proofs.YtaflceohlijekaaGreat.Ev
namespace Go.Proofs.YtaflceohlijekaaGreat.Ev
def wfT : (s : Sh) -> s.T -> Prop
  | .int k, x => (Lit.int k x).wf = true | .bool, _ => True | .str, s => s.size <= maxLen | .unit, _ => True
  | .sl e, xs => xs.length <= maxLen /\ ∀ x ∈ xs, wfT e x | .pair a b, x => wfT a x.1 /\ wfT b x.2
def tyClosed (E : Env) (tk : Nat -> Bool) (t : Nat) : Bool := match (E.ty t).d with
  | .slice e => tk e && Nat.blt 0 (E.ty e).sh.n | .struct fs => fs.all (fun q => tk q.2) | .scalar => true | _ => false
section
variable {H : Type} {enc : TypeId × Value -> H} {P : Program} {E : Env} {tk : Nat -> Bool} {w : World}
theorem open_elems {e : Sh} {b o : Nat} {Ok : Nat -> Nat -> Prop} {W : e.T -> Prop} : ∀ (n : Nat), (∀ i, i < n -> ∃ (cs : List Value) (x : e.T), cs.length = e.n /\ (∀ j v, cs[j]? = some v -> cellAt w b (o + i * e.n + j) = some v /\ Ok b (o + i * e.n + j)) /\ RdL w Ok (flat e x) cs /\ W x) ->
    ∃ (xs : List e.T) (inner : List Value), xs.length = n /\ inner.length = n * e.n /\ (∀ j v, inner[j]? = some v -> cellAt w b (o + j) = some v /\ Ok b (o + j)) /\ RdL w Ok (xs.flatMap (flat e)) inner /\ ∀ x ∈ xs, W x
  | 0, _ => ⟨[], [], rfl, by simp, fun j v h => by simp at h, .nil, fun x h => by cases h⟩
  | n + 1, h => by
    obtain ⟨xs, inner, h1, h2, h3, h4, h5⟩ := open_elems n (fun i hi => h i (by omega))
    obtain ⟨cs, x, c1, c2, c3, c4⟩ := h n (Nat.lt_succ_self n)
    refine ⟨xs ++ [x], inner ++ cs, by simp [h1], by simp [h2, c1, Nat.add_mul], fun j v hj => ?_, ?_, fun y hy => ?_⟩
    · by_cases hlt : j < inner.length
      · rw [List.getElem?_append_left hlt] at hj
        exact h3 j v hj
      · rw [List.getElem?_append_right (by omega)] at hj
        have := c2 _ v hj
        rw [show o + n * e.n + (j - inner.length) = o + j by omega] at this
        exact this
    · rw [List.flatMap_append]
      exact h4.append (by simpa using c3)
    · rw [List.mem_append] at hy
      rcases hy with hy | hy
      · exact h5 y hy
      · simp only [List.mem_singleton] at hy
        subst hy
        exact c4
theorem open_fields {Ok : Nat -> Nat -> Prop} (hcell : ∀ t, tk t = true -> TyOk P E t) {cs : List Value} : ∀ (fs : List (Nat × Nat)) (off : Nat) (s : Sh), fieldsOk P E fs off s = true -> cs.length = off + s.n ->
    (∀ q ∈ fs, ∃ x : (E.ty q.2).sh.T, RdL w Ok (flat (E.ty q.2).sh x) ((cs.drop q.1).take (E.ty q.2).sh.n) /\ wfT (E.ty q.2).sh x) -> ∃ x : s.T, RdL w Ok (flat s x) (cs.drop off) /\ wfT s x
  | [], off, s, h, hl, _ => by
    cases s <;> simp only [fieldsOk] at h <;> first | cases h | skip
    exact ⟨(), by rw [List.drop_eq_nil_of_le (by simp [Sh.n] at hl; omega)]; exact .nil, trivial⟩
  | [(o, t)], off, s, h, hl, hf => by
    simp only [fieldsOk, Bool.and_eq_true, beq_iff_eq, decide_eq_true_eq] at h
    obtain ⟨⟨⟨rfl, h2⟩, _⟩, _⟩ := h
    obtain ⟨x, hx, hw⟩ := hf (o, t) (by simp)
    subst h2
    refine ⟨x, ?_, hw⟩
    rwa [List.take_of_length_le (by simp; omega)] at hx
  | (o, t) :: q :: r, off, s, h, hl, hf => by
    cases s <;> simp only [fieldsOk] at h <;> first | cases h | skip
    rename_i a b
    simp only [Bool.and_eq_true, beq_iff_eq, decide_eq_true_eq] at h
    obtain ⟨⟨⟨⟨rfl, h2⟩, _⟩, _⟩, h5⟩ := h
    obtain ⟨x, hx, hw⟩ := hf (o, t) (by simp)
    simp only [Sh.n] at hl
    obtain ⟨y, hy, hw2⟩ := open_fields hcell (q :: r) (o + a.n) b h5 (by omega) (fun p hp => hf p (List.mem_cons_of_mem _ hp))
    subst h2
    refine ⟨(x, y), ?_, hw, hw2⟩
    have e : cs.drop o = (cs.drop o).take (E.ty t).sh.n ++ cs.drop (o + (E.ty t).sh.n) := by
      rw [<- List.drop_drop, List.take_append_drop]
    show RdL w Ok (flat _ x ++ flat b y) (cs.drop o)
    rw [e]
    exact hx.append hy
theorem cells_row {a : Addr} {n : Nat} {cs : List Value} (h : w.cells? 0 a n = some cs) : cs.length = n /\ ∀ i, i < n -> w.cell? (a.add i) = cs[i]? := by
  unfold World.cells? at h
  rw [if_pos (Nat.zero_le _)] at h
  have hl : cs.length = n := by simpa using mapM_some_length h
  refine ⟨hl, fun i hi => ?_⟩
  have := mapM_some_get h i i (by simp [hi])
  exact this
theorem open_sh (htk : ∀ t, tk t = true -> TyOk P E t /\ tyClosed E tk t = true) : ∀ (fuel t : Nat) (cs : List Value) (x : DataW H × List MemPlace), tk t = true -> DataW.trod enc P w 0 (fun _ => true) true fuel t cs = some x ->
    ∃ y : (E.ty t).sh.T, RdL w (fun b _ => b < w.heap.size) (flat (E.ty t).sh y) cs /\ wfT (E.ty t).sh y
  | 0, t, cs, x, ht, h => by simp [DataW.trod] at h
  | fuel + 1, t, cs, x, ht, h => by
    obtain ⟨hty, hcl⟩ := htk t ht
    unfold tyClosed at hcl
    cases hd : (E.ty t).d with
    | ptr e => rw [hd] at hcl; cases hcl
    | array n e => rw [hd] at hcl; cases hcl
    | scalar =>
      obtain ⟨d, u1, u2, _⟩ := hty.scalar hd
      rcases u2 with ⟨rfl, hs⟩ | ⟨k, rfl, hs⟩ | ⟨rfl, hs⟩
      · obtain ⟨b, rfl, _⟩ := DataW.trod_bool u1 h
        rw [hs]
        exact ⟨b, .bool .nil, trivial⟩
      · obtain ⟨n, rfl, _, hwf⟩ := DataW.trod_int u1 h
        rw [hs]
        exact ⟨n, .int .nil, hwf⟩
      · obtain ⟨z, rfl, hz⟩ := DataW.trod_string u1 h
        rw [hs]
        exact ⟨z, .str .nil, hz.2⟩
    | slice e =>
      rw [hd] at hcl
      simp only [Bool.and_eq_true] at hcl
      obtain ⟨u1, hs, _⟩ := hty.slice hd
      obtain ⟨hte, _⟩ := htk e hcl.1
      have hn : 0 < (E.ty e).sh.n := blt_true hcl.2
      rw [hs]
      rcases DataW.trod_slice u1 h with ⟨rfl, _⟩ | ⟨a, len, cap, elems, rest, m, hm, rfl, hx, hb, hlc, hcm, hel, helems, _⟩
      · exact ⟨([] : List (E.ty e).sh.T), .sl0 .nil, Nat.zero_le _, fun _ h => by cases h⟩
      · cases hm
        by_cases hz : len = 0
        · subst hz
          exact ⟨([] : List (E.ty e).sh.T), .sl0 .nil, Nat.zero_le _, fun _ h => by cases h⟩
        · have get : ∀ i, i < len -> ∃ cs1 y, w.cells? 0 (a.add (i * P.cellsOf e)) (P.cellsOf e) = some cs1 /\ DataW.trod enc P w 0 (fun _ => true) true fuel e cs1 = some y := by
            intro i hi
            have := helems i hi
            rw [List.getElem?_eq_getElem (by omega)] at this
            cases hc : w.cells? 0 (a.add (i * P.cellsOf e)) (P.cellsOf e) with
            | none => rw [hc] at this; cases this
            | some cs1 => rw [hc] at this; exact ⟨cs1, _, rfl, this⟩
          have hcn := hte.cells
          obtain ⟨b, o, hs⟩ : ∃ b o, a = ⟨b, o, none⟩ := by
            obtain ⟨cs1, y, g1, _⟩ := get 0 (by omega)
            obtain ⟨l1, l2⟩ := cells_row g1
            have h0 := l2 0 (by omega)
            rw [List.getElem?_eq_getElem (by omega)] at h0
            have hsp := World.cell?_spot h0
            obtain ⟨b, o, sp⟩ := a
            refine ⟨b, o, ?_⟩
            have : sp = none := by simpa [Addr.add] using hsp
            rw [this]
          subst hs
          obtain ⟨xs, inner, i1, i2, i3, i4, i5⟩ := open_elems (e := (E.ty e).sh) (b := b) (o := o) (Ok := fun b _ => b < w.heap.size) (W := wfT (E.ty e).sh) len (fun i hi => by
            obtain ⟨cs1, y, g1, g2⟩ := get i hi
            obtain ⟨l1, l2⟩ := cells_row g1
            obtain ⟨z, z1, z2⟩ := open_sh htk fuel e cs1 y hcl.1 g2
            refine ⟨cs1, z, by rw [l1, hcn], fun j v hj => ?_, z1, z2⟩
            have hjl : j < cs1.length := by
              rcases Nat.lt_or_ge j cs1.length with q | q
              · exact q
              · rw [List.getElem?_eq_none q] at hj; cases hj
            have hc := l2 j (by omega)
            rw [hj, add_none, add_none, hcn] at hc
            exact ⟨hc, cellAt_lt hc⟩)
          refine ⟨xs, .sl ⟨i1, hlc⟩ i2 i3 i4 .nil, ?_, i5⟩
          rw [i1]; omega
    | struct fs =>
      rw [hd] at hcl
      simp only [List.all_eq_true] at hcl
      obtain ⟨fields, u1, u2, u3, _⟩ := hty.struct hd
      obtain ⟨xs, m, hm, hx, hl, hxl, hf⟩ := DataW.trod_struct u1 h
      cases hm
      obtain ⟨y, y1, y2⟩ := open_fields (w := w) (Ok := fun b _ => b < w.heap.size) (fun t ht => (htk t ht).1) fs 0 (E.ty t).sh u3 (by rw [hl, hty.cells, Nat.zero_add]) (fun q hq => by
        rw [<- u2] at hq
        obtain ⟨f, hf1, rfl⟩ := List.mem_map.1 hq
        have hte := hcl (f.offset, f.type) (by rw [<- u2]; exact List.mem_map.2 ⟨f, hf1, rfl⟩)
        obtain ⟨i, hi⟩ := List.getElem?_of_mem hf1
        have hi' : fields[i]? = some f := by simpa using hi
        have hlt : i < fields.size := (Array.getElem?_eq_some_iff.1 hi').1
        have := hf i f hi'
        rw [List.getElem?_eq_getElem (by omega), (htk f.type hte).1.cells] at this
        exact open_sh htk fuel f.type _ _ hte this)
      rw [List.drop_zero] at y1
      exact ⟨y, y1, y2⟩
def cx0 (w : World) : Cx := ⟨w, fun _ => False, fun _ _ => False, fun _ => none⟩
theorem cx0_ok {w : World} {b o : Nat} (h : b < w.heap.size) : (cx0 w).ok b o := ⟨h, fun q => q, fun q => q⟩
theorem open_arg (htk : ∀ t, tk t = true -> TyOk P E t /\ tyClosed E tk t = true) {t : Nat} (ht : tk t = true) {v : Value} {r : Reach} {base : Nat} (hv : Value.okWide P w r base t v) {d : DataW H} {ps : List MemPlace} (h : DataW.Trod enc P w 0 (fun _ => true) true t v d ps) :
    ∃ y : (E.ty t).sh.T, ArgRel (cx0 w) (.val (E.ty t).agg (E.ty t).sh) y v /\ wfT (E.ty t).sh y := by
  obtain ⟨fuel, hf⟩ := h
  obtain ⟨y, y1, y2⟩ := open_sh htk fuel t _ _ ht hf
  have y3 : RdL w (cx0 w).ok (flat (E.ty t).sh y) v.cells.toList := y1.mono fun b o hb => ⟨rfl, cx0_ok hb⟩
  refine ⟨y, ?_, y2⟩
  obtain ⟨hty, hcl⟩ := htk t ht
  cases hd : (E.ty t).d with
  | ptr e => unfold tyClosed at hcl; rw [hd] at hcl; cases hcl
  | array n e => unfold tyClosed at hcl; rw [hd] at hcl; cases hcl
  | struct fs =>
    obtain ⟨fields, u1, u2, u3, u4⟩ := hty.struct hd
    rw [u4]
    unfold Value.okWide at hv
    rw [u1] at hv
    obtain ⟨cs, rfl, _⟩ := hv
    exact ⟨cs.toList, by simp, y3⟩
  | slice e =>
    obtain ⟨u1, hs, u4⟩ := hty.slice hd
    obtain ⟨a, l, c, rfl⟩ := WideShapes.okWide_slice u1 hv
    rw [u4]
    show RdL w (cx0 w).ok _ _
    simpa [Value.cells] using y3
  | scalar =>
    obtain ⟨dd, u1, u2, u4⟩ := hty.scalar hd
    rw [u4]
    show RdL w (cx0 w).ok _ [v]
    have hone : v.cells = #[v] := by
      rcases u2 with ⟨rfl, _⟩ | ⟨k, rfl, _⟩ | ⟨rfl, _⟩
      · obtain ⟨b, rfl⟩ := WideShapes.okWide_bool u1 hv; rfl
      · obtain ⟨b, rfl⟩ := WideShapes.okWide_int u1 hv; rfl
      · obtain ⟨b, rfl⟩ := WideShapes.okWide_string u1 hv; rfl
    rw [hone] at y3
    simpa using y3
end
end Go.Proofs.YtaflceohlijekaaGreat.Ev
namespace Go.Proofs.YtaflceohlijekaaGreat.Ev
section
variable {E : Env} {w w' : World} {args : List Value} {e : Ending}
theorem law_out {w' : World} : ∀ (ps : List Par) (vs oc : List Value), outsOf ps = [] -> (∀ p ∈ ps, p.isMut = false) -> OutRel w' ps vs oc -> oc = []
  | [], vs, oc, _, _, h => h
  | .val g s :: ps, v :: vs, oc, h1, h2, h => law_out ps vs oc h1 (fun p hp => h2 p (List.mem_cons_of_mem _ hp)) h
  | .ro s :: ps, v :: vs, oc, h1, h2, h => law_out ps vs oc h1 (fun p hp => h2 p (List.mem_cons_of_mem _ hp)) h
  | .mut s :: ps, _, _, _, h2, _ => by have := h2 _ List.mem_cons_self; cases this
  | .muts s :: ps, _, _, _, h2, _ => by have := h2 _ List.mem_cons_self; cases this
  | .fld s o e :: ps, _, _, _, h2, _ => by have := h2 _ List.mem_cons_self; cases this
  | .val g s :: ps, [], oc, _, _, h => h.elim
  | .ro s :: ps, [], oc, _, _, h => h.elim
theorem law_post {f : Nat} {x : (E.sig f).R.T} (hrs : (E.sig f).rs = [(false, .bool)]) (hps : (E.sig f).ps.all (fun p => !p.isMut) = true) (hx : flat (E.sig f).R x = [.bool true]) (h : Post E (cx0 w) f args x e w') : e = .returned (.bool true) /\ RowKit.Below w.heap.size w w' := by
  cases e with
  | returned v =>
    obtain ⟨rc, oc, F', p1, p2, p3, p4, p5, p6⟩ := h
    have hm : ∀ p ∈ (E.sig f).ps, p.isMut = false := by
      rw [List.all_eq_true] at hps
      intro p hp
      simpa using hps p hp
    have ho : outsOf (E.sig f).ps = [] := by
      generalize (E.sig f).ps = ps at hm
      induction ps with
      | nil => rfl
      | cons p t ih =>
        have h1 := hm p List.mem_cons_self
        have h2 := ih (fun q hq => hm q (List.mem_cons_of_mem _ hq))
        cases p <;> first | (cases h1; done) | simpa [outsOf, Par.out] using h2
    have hoc := law_out _ _ _ ho hm p4
    subst hoc
    rw [List.append_nil, hx] at p5
    rw [hrs] at p2
    have hv : rc = [v] := p2
    subst hv
    cases p5 with
    | bool _ => exact ⟨rfl, p1.os, p1.tape, p1.output, p1.size, fun k hk => p1.same hk (fun q => q) (fun _ q => q)⟩
  | panicked _ => exact h.elim
  | outgrown => exact h.elim
end
end Go.Proofs.YtaflceohlijekaaGreat.Ev
