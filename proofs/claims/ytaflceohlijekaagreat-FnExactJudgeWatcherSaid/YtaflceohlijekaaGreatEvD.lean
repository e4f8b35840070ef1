/- A part of the proof that for every match and every number, the program's JudgeWatcher answers as the specification's JudgeWatcher does, and leaves its arguments as they were; there is no condition. -/
import Derived.Test.YtaflceohlijekaaGreatEvC
import Derived.Deep.AppendSrc
import Derived.Laws.MakeOwn
import Derived.Great.FillDense
import Derived.Tactics
set_option linter.unusedVariables false
set_option linter.unusedSimpArgs false
namespace Go.Proofs.YtaflceohlijekaaGreat.Ev
section
variable {P : Program} {E : Env} {c : Cx} {st : St} {G G' : Gh} {w w' : World} {a : Act} {o : Oper} {K : Act -> World -> Prop} {Q : Exit -> Act -> World -> Prop} {tm : Nat -> Value}
variable {R : Type} {call : E.Call} {k : Eff -> Option R} {r : R} {pl : Plan E}
theorem Rel.newUnit (h : Rel c st G w tm) {k : Nat} {e0 : Sh} {xs' : List e0.T} (hk : getA st.us k = none) {nu : List (Nat × UE)} {Fy : Nat -> Prop} (hg : Given G st.us nu Fy)
    {w' : World} {Fw F' : Nat -> Prop} {v' : Value} (hkept : KeptW Fw (fun _ _ => False) w w') (hFw : ∀ b, b < w.heap.size -> Fw b -> ∃ i ep e xs, getA nu i = some .gone /\ getA st.us i = some (.own ep e xs) /\ G.uf i b)
    (hown : OwnL w' [.ext e0 xs'] [v'] F') (hF' : ∀ b, F' b -> (∃ i ep e xs, getA nu i = some .gone /\ getA st.us i = some (.own ep e xs) /\ G.uf i b) \/ w.heap.size <= b) :
    ∃ G', G'.va = G.va /\ G'.uv k = v' /\ (∀ i, i ≠ k -> G'.uv i = G.uv i) /\ Rel c ⟨st.sl, st.vs, (k, .own 0 e0 xs') :: (nu ++ st.us)⟩ G' w' tm /\ UCompat st.us ((k, .own 0 e0 xs') :: (nu ++ st.us)) G G' w w' /\ VCompat st.vs st.vs G G' := by
  have hgone : ∀ i en, getA nu i = some en -> en = .gone /\ i ≠ k := by
    intro i en hi
    obtain ⟨g1, ep, e, xs, g2⟩ := hg.gone i en hi
    refine ⟨g1, ?_⟩
    rintro rfl
    rw [hk] at g2
    cases g2
  let G' : Gh := { G with uf := fun i => if i = k then F' else G.uf i, uv := fun i => if i = k then v' else G.uv i }
  have hus : ∀ i, getA ((k, UE.own 0 e0 xs') :: (nu ++ st.us)) i = if k = i then some (UE.own 0 e0 xs') else match getA nu i with | some v => some v | none => getA st.us i := by
    intro i
    rw [getA_cons, getA_append]
    split
    · rfl
    · cases getA nu i <;> rfl
  refine ⟨G', rfl, by simp [G'], fun i hi => by simp [G', hi], h.upd (fun i => i = k \/ getA nu i = some .gone) (fun _ => False) (us' := (k, .own 0 e0 xs') :: (nu ++ st.us)) (vs' := st.vs) (G' := G') hkept ?_ (fun _ _ _ q => q.elim) ?_ (fun _ _ => ⟨rfl, rfl⟩) ?_ ?_ ?_
    (fun _ _ q => q.elim) (fun _ _ _ _ q => q.elim) (fun _ _ _ _ _ _ _ q => q.elim) (fun _ _ q => q.elim)⟩
  · intro b hb hf
    obtain ⟨i, ep, e, xs, p1, p2, p3⟩ := hFw b hb hf
    exact ⟨i, ep, e, xs, .inr p1, p2, p3⟩
  · intro i hi
    have hik : i ≠ k := fun e => hi (.inl e)
    refine ⟨?_, by simp [G', hik], by simp [G', hik]⟩
    rw [hus, if_neg (fun e => hik e.symm)]
    cases hn : getA nu i with
    | none => rfl
    | some en => exact absurd (.inr (by rw [hn, (hgone i en hn).1])) hi
  · intro i ep' e xs hi hget
    rw [hus] at hget
    split at hget
    · rename_i hki
      subst hki
      cases hget
      refine ⟨by simpa [G'] using hown, fun b hb => ?_⟩
      rcases hF' b (by simpa [G'] using hb) with ⟨i, ep, e, xs, p1, p2, p3⟩ | p
      · exact .inl ⟨i, ep, e, xs, .inr p1, p2, p3⟩
      · exact .inr p
    · rename_i hki
      rcases hi with rfl | hi
      · exact absurd rfl hki
      · rw [hi] at hget; cases hget
  · intro i1 i2 ep1 e1 xs1 ep2 e2 xs2 h1 h2 g1 g2 hne
    have only : ∀ i ep e xs, (i = k \/ getA nu i = some .gone) -> getA ((k, UE.own 0 e0 xs') :: (nu ++ st.us)) i = some (.own ep e xs) -> i = k := by
      intro i ep e xs hi hget
      rcases hi with rfl | hi
      · rfl
      · rw [hus, if_neg (fun e => (hgone i _ hi).2 e.symm), hi] at hget; cases hget
    exact absurd ((only _ _ _ _ h1 g1).trans (only _ _ _ _ h2 g2).symm) hne
  · intro i en hi hget
    rcases hi with rfl | hi
    · rw [hk] at hget
      cases hget
    · refine ⟨.gone, ?_, fun _ _ _ he => by cases he⟩
      rw [hus, if_neg (fun e => (hgone i _ hi).2 e.symm), hi]
theorem drew_heap (w : World) (b : Nat) : w.drew.heap[b]? = w.heap[b]? := rfl
theorem append_core {t te tx ty : Nat} (ht : P.underlying t = some (.slice te)) (hte : TyOk P E te) {e : Sh} (he : e = (E.ty te).sh) {xs ys : List e.T} {vx vy : Value} {Fx Fy : Nat -> Prop}
    (hx : OwnL w [.ext e xs] [vx] Fx) {news : List Value} (hsrc : Src P e.n tx vy ys.length news w) (hy : OwnL w (ys.flatMap (flat e)) news Fy) (hdj : Dj Fx Fy) (hlim : xs.length + ys.length <= (E.ty te).lim) :
    ∃ v' w' F', (Builtin.append_ #[t, tx] ty #[vx, vy]).run P w = .ok v' w' /\ KeptW Fx (fun _ _ => False) w w' /\ OwnL w' [.ext e (xs ++ ys)] [v'] F' /\ ∀ b, F' b -> Fx b \/ Fy b \/ w.heap.size <= b := by
  obtain ⟨i, z, d, hi, _, hsize, hbytes, hlim2, hz, hzc, _⟩ := hte.info
  have hz' : z.cells.size = e.n := by
    have := congrArg List.length hzc
    rw [Array.length_toList] at this
    rw [this, he]
    have := (zero_rel (c := ⟨w, fun _ => False, fun _ _ => False, fun _ => none⟩) (us := []) (G := ⟨fun _ => .bool true, fun _ _ => False, fun _ => (0, 0)⟩) (w := w) (E.ty te).sh).length
    rw [this, zeroLeaves_length]
  have hsz : i.size = e.n := by rw [hsize, he]
  have hml : xs.length + ys.length <= maxLen := by unfold maxLen; omega
  have hby : (xs.length + ys.length) * i.bytes <= 140737488355328 := by
    rw [Nat.mul_comm]
    exact Nat.le_trans (Nat.mul_le_mul_left _ hlim) hbytes
  rw [<- hsz] at hsrc
  have hnl := hsrc.newsLen
  rw [hsz] at hnl
  have grow : ∀ (base : Option Addr) (cap : Nat) (olds : List Value) (F1 : Nat -> Prop), vx = .slice base xs.length cap -> cap < xs.length + ys.length -> (Builtin.firstCells i.size xs.length vx).run P w.drew = .ok olds.toArray w.drew -> olds.length = xs.length * e.n ->
      OwnL w (xs.flatMap (flat e)) olds F1 -> (∀ b, F1 b -> Fx b) ->
      ∃ v' w' F', (Builtin.append_ #[t, tx] ty #[vx, vy]).run P w = .ok v' w' /\ KeptW Fx (fun _ _ => False) w w' /\ OwnL w' [.ext e (xs ++ ys)] [v'] F' /\ ∀ b, F' b -> Fx b \/ Fy b \/ w.heap.size <= b := by
    intro base cap olds F1 hv hcap hold holdl hown hsub
    subst hv
    have hr := run_append_grow_src (P := P) w t tx ty te i z ht hi hz base xs.length cap olds hold vy ys.length news hsrc hcap (by simp only [maxLen] at hml; omega) (growslice_fits (by omega) hby)
    have hge := grownCap_ge w (xs.length + ys.length) cap te
    have hcm := grownCap_le_maxLen w (xs.length + ys.length) cap te hml
    have hkept : KeptW Fx (fun _ _ => False) w (w.drew.alloc (.cells ((olds ++ news).toArray ++ Builtin.zeroCells z.cells (grownCap w (xs.length + ys.length) cap te - (xs.length + ys.length))) te)) :=
      (KeptW.drew _ _ w).trans (KeptW.alloc _ _ w.drew _)
    have hold' : ∀ b, b < w.heap.size -> (w.drew.alloc (.cells ((olds ++ news).toArray ++ Builtin.zeroCells z.cells (grownCap w (xs.length + ys.length) cap te - (xs.length + ys.length))) te)).heap[b]? = w.heap[b]? :=
      fun b hb => heap_alloc_old w.drew _ _ hb
    refine ⟨_, _, _, hr, hkept, .sl (g := w.heap.size) (o := 0) (F1 := fun b => F1 b \/ Fy b) (by simp) hge hcm ?_ (heap_alloc_new w.drew _) (fun j _ => by simp) ?_ ?_ .nil (fun q => q) (fun _ _ q => q), ?_⟩
    · simp only [Array.size_append, List.size_toArray, List.length_append, size_zeroCells, hz', hnl, holdl, <- Nat.add_mul]
      rw [show xs.length + ys.length + (grownCap w (xs.length + ys.length) cap te - (xs.length + ys.length)) = grownCap w (xs.length + ys.length) cap te by omega]
      omega
    · have : (((olds ++ news).toArray ++ Builtin.zeroCells z.cells (grownCap w (xs.length + ys.length) cap te - (xs.length + ys.length))).toList.drop 0).take ((xs.length + ys.length) * e.n) = olds ++ news := by
        simp only [Array.toList_append, List.drop_zero]
        exact List.take_left' (by rw [List.length_append, holdl, hnl, Nat.add_mul])
      rw [this, List.flatMap_append]
      exact (hown.frame (fun b hb => hold' b (hown.lt b hb))).append (hy.frame (fun b hb => hold' b (hy.lt b hb))) (fun b p q => hdj b (hsub b p) q)
    · rintro (p | p)
      · have := hown.lt _ p; omega
      · have := hy.lt _ p; omega
    · rintro b (rfl | (p | p) | p)
      · exact .inr (.inr (Nat.le_refl _))
      · exact .inl (hsub b p)
      · exact .inr (.inl p)
      · exact p.elim
  cases hx with
  | nl h0 =>
    by_cases hm : ys.length = 0
    · have : ys = [] := List.eq_nil_of_length_eq_zero hm
      subst this
      refine ⟨.slice none 0 0, w, _, ?_, .refl _ _ _, .nl .nil, fun _ q => q.elim⟩
      have q1 : ∀ w', (Builtin.lenOf vy).run P w' = .ok 0 w' := hsrc.len
      have q2 : (Builtin.firstCells i.size 0 vy).run P w = .ok news.toArray w := hsrc.cells
      rcases hsrc.kind with ⟨e', hk⟩ | hk <;> simp [Builtin.append_, run_underlying ht, run_underlying hk, sizeOf, typeInfo, hi, q1, q2]
    · exact grow none 0 [] (fun _ => False) rfl (by simp; omega) (by simpa using run_firstCells_none (P := P) w.drew i.size 0 0 0) (by simp) (by simpa using OwnL.nil) (fun _ q => q.elim)
  | sl h1 h2 h3 h4 h5 h6 h7 h8 h9 h10 h11 =>
    rename_i g o n cap cur et fr F1 F2
    subst h1
    cases h9
    have hn1 : xs.length * e.n <= cap * e.n := Nat.mul_le_mul_right _ h2
    have hl7 : ((cur.toList.drop o).take (xs.length * e.n)).length = xs.length * e.n := by rw [h7.length, flatMap_length]
    by_cases hroom : xs.length + ys.length <= cap
    · have hn2 : (xs.length + ys.length) * e.n <= cap * e.n := Nat.mul_le_mul_right _ hroom
      rw [Nat.add_mul] at hn2
      have hcell : ∀ j, j < news.length -> ∃ u, cellAt w g (o + xs.length * e.n + j) = some u := fun j hj => by
        rw [cellAt_of h5]
        exact ⟨_, Array.getElem?_eq_getElem (by omega)⟩
      have hr := run_append_room_src (P := P) w t tx ty te i ht hi g o xs.length cap vy ys.length news hsrc hroom (fun j hj => by
          rw [hsz]
          exact Option.isSome_iff_exists.2 (hcell j hj)) (fun j hj => by
          rw [hsz]
          unfold World.frozen?
          rw [h5]
          have := h6 (o + xs.length * e.n + j) (by omega)
          simp only [Bool.and_eq_false_imp, decide_eq_true_eq, decide_eq_false_iff_not]
          exact fun p q => this ⟨p, q⟩)
      rw [hsz] at hr
      obtain ⟨cur', z1, z2, z3, z4⟩ := setCells_obj g news (o + xs.length * e.n) w cur et fr h5
      have hother : ∀ b, b ≠ g -> (w.setCells g (o + xs.length * e.n) news).heap[b]? = w.heap[b]? := fun b hb => setCells_other _ _ _ _ _ hb
      refine ⟨_, _, _, hr, ?_, .sl (F1 := fun b => F1 b \/ Fy b) (by simp) hroom h3 (by omega) z1 (fun j hj => h6 j (by omega)) ?_ ?_ .nil (fun q => q) (fun _ _ q => q), ?_⟩
      · have := setCells_keptF w g (o + xs.length * e.n) news
        exact ⟨this.os, this.tape, this.output, this.size, fun b hb hnf => this.block b hb (fun e => hnf (.inl e))⟩
      · have : (cur'.toList.drop o).take ((xs.length + ys.length) * e.n) = (cur.toList.drop o).take (xs.length * e.n) ++ news := by
          apply List.ext_getElem?
          intro j
          rw [List.getElem?_take]
          by_cases hj1 : j < xs.length * e.n
          · rw [if_pos (by rw [Nat.add_mul]; omega), List.getElem?_drop, List.getElem?_append_left (by omega), List.getElem?_take, if_pos hj1, List.getElem?_drop]
            simp only [Array.getElem?_toList]
            exact z3 _ (by omega)
          · rw [List.getElem?_append_right (by omega), hl7]
            split
            · rename_i hj2
              rw [Nat.add_mul] at hj2
              rw [List.getElem?_drop]
              simp only [Array.getElem?_toList]
              have := z4 (by omega) (j - xs.length * e.n) (by omega)
              rw [<- this]
              congr 1
              omega
            · rename_i hj2
              rw [Nat.add_mul] at hj2
              rw [List.getElem?_eq_none (by omega)]
        rw [this, List.flatMap_append]
        exact (h7.frame (fun b hb => hother b (fun e => h8 (e ▸ hb)))).append (hy.frame (fun b hb => hother b (fun e => hdj b (.inl e) hb))) (fun b p q => hdj b (.inr (.inl p)) q)
      · rintro (p | p)
        · exact h8 p
        · exact hdj g (.inl rfl) p
      · rintro b (rfl | (p | p) | p)
        · exact .inl (.inl rfl)
        · exact .inl (.inr (.inl p))
        · exact .inr (.inl p)
        · exact p.elim
    · refine grow (some ⟨g, o, none⟩) cap _ F1 rfl (by omega) ?_ hl7 h7 (fun b hb => .inr (.inl hb))
      refine run_firstCells_some (P := P) w.drew i.size xs.length ⟨g, o, none⟩ xs.length cap _ (by rw [hsz]; exact hl7) (fun j u hj => ?_)
      rw [add_none]
      show cellAt w.drew g (o + j) = some u
      rw [List.getElem?_take] at hj
      split at hj
      · rw [List.getElem?_drop] at hj
        rw [cellAt_of (w := w.drew) h5]
        simpa using hj
      · cases hj
theorem plain_vals {w : World} {ls : List Lf} {vs : List Value} {F : Nat -> Prop} (h : OwnL w ls vs F) (hp : ∀ l ∈ ls, isScalar l = true) : vs = ls.map valOf := by
  induction h with
  | nil => rfl
  | int _ ih => rw [List.map_cons, <- ih (fun l hl => hp l (List.mem_cons_of_mem _ hl))]; rfl
  | bool _ ih => rw [List.map_cons, <- ih (fun l hl => hp l (List.mem_cons_of_mem _ hl))]; rfl
  | str _ ih => rw [List.map_cons, <- ih (fun l hl => hp l (List.mem_cons_of_mem _ hl))]; rfl
  | nl _ ih => have := hp _ (List.mem_cons_self); cases this
  | sl => have := hp _ (List.mem_cons_self); cases this
theorem plain_rd {w : World} {Ok : Nat -> Nat -> Prop} {ls : List Lf} {vs : List Value} (h : RdL w Ok ls vs) (hp : ∀ l ∈ ls, isScalar l = true) : vs = ls.map valOf := by
  induction h with
  | nil => rfl
  | int _ ih => rw [List.map_cons, <- ih (fun l hl => hp l (List.mem_cons_of_mem _ hl))]; rfl
  | bool _ ih => rw [List.map_cons, <- ih (fun l hl => hp l (List.mem_cons_of_mem _ hl))]; rfl
  | str _ ih => rw [List.map_cons, <- ih (fun l hl => hp l (List.mem_cons_of_mem _ hl))]; rfl
  | sl0 _ ih => have := hp _ (List.mem_cons_self); cases this
  | sl => have := hp _ (List.mem_cons_self); cases this
theorem plain_own {w : World} {ls : List Lf} (hp : ∀ l ∈ ls, isScalar l = true) : OwnL w ls (ls.map valOf) (fun _ => False) := by
  induction ls with
  | nil => exact .nil
  | cons l t ih =>
    have ih := ih (fun l hl => hp l (List.mem_cons_of_mem _ hl))
    cases l with
    | int => exact .int ih
    | bool => exact .bool ih
    | str => exact .str ih
    | _ => have := hp _ (List.mem_cons_self); cases this
theorem deep_flat : ∀ (s : Sh) (x : s.T), s.deep = false -> ∀ l ∈ flat s x, isScalar l = true
  | .int _, _, _, l, hl => by simp [flat] at hl; subst hl; rfl
  | .bool, _, _, l, hl => by simp [flat] at hl; subst hl; rfl
  | .str, _, _, l, hl => by simp [flat] at hl; subst hl; rfl
  | .unit, _, _, l, hl => by simp [flat] at hl
  | .sl _, _, h, _, _ => by cases h
  | .pair a b, x, h, l, hl => by
    simp only [Sh.deep, Bool.or_eq_false_iff] at h
    simp only [flat, List.mem_append] at hl
    rcases hl with hl | hl
    · exact deep_flat a x.1 h.1 l hl
    · exact deep_flat b x.2 h.2 l hl
theorem deep_flatMap (e : Sh) (xs : List e.T) (h : e.deep = false) : ∀ l ∈ xs.flatMap (flat e), isScalar l = true := by
  intro l hl
  obtain ⟨x, _, hx⟩ := List.mem_flatMap.1 hl
  exact deep_flat e x h l hx
theorem isScalar_one : ∀ (ls : List Lf), (∀ l ∈ ls, isScalar l = true) -> ∀ u ∈ ls.map valOf, u.oneCell' = true := by
  intro ls hp u hu
  obtain ⟨l, hl, rfl⟩ := List.mem_map.1 hu
  have := hp l hl
  cases l <;> first | rfl | cases this
def ReadsAs (w : World) (v : Value) (n : Nat) (news : List Value) : Prop := ∃ A cap, v = .slice A n cap /\ ((A = none /\ n = 0) \/ n = 0 \/ ∃ g o, A = some ⟨g, o, none⟩ /\ ∀ j u, news[j]? = some u -> cellAt w g (o + j) = some u)
theorem OwnL.reads {w : World} {e : Sh} {xs : List e.T} {v : Value} {F : Nat -> Prop} (h : OwnL w [.ext e xs] [v] F) (hd : e.deep = false) : ReadsAs w v xs.length ((xs.flatMap (flat e)).map valOf) := by
  rcases Nat.eq_zero_or_pos xs.length with hx | hx
  · obtain ⟨A, cap, h1⟩ := h.slice_form
    exact ⟨A, cap, h1, .inr (.inl hx)⟩
  · obtain ⟨g, o, cap, cur, et, fr, F1, h1, h2, h3, h4, h5, h6, h7, _⟩ := h.open_sl hx
    refine ⟨_, cap, h1, .inr (.inr ⟨g, o, rfl, fun j u hj => ?_⟩)⟩
    rw [<- plain_vals h7 (deep_flatMap e xs hd)] at hj
    rw [List.getElem?_take] at hj
    split at hj
    · rw [List.getElem?_drop] at hj
      rw [cellAt_of h5]
      simpa using hj
    · cases hj
theorem ReadsAs.src {w : World} {v : Value} {n : Nat} {news : List Value} (h : ReadsAs w v n news) {size : Nat} {tx e' : TypeId} (hk : P.underlying tx = some (.slice e')) (hl : news.length = n * size) (h1 : ∀ u ∈ news, u.oneCell' = true) : Src P size tx v n news w := by
  obtain ⟨A, cap, rfl, h⟩ := h
  have zero : n = 0 -> Src P size tx (.slice A n cap) n news w := by
    intro h0
    subst h0
    have : news = [] := List.eq_nil_of_length_eq_zero (by simpa using hl)
    subst this
    cases A with
    | none => exact Src.ofNil w hk cap
    | some ad => exact Src.ofSlice w hk ad 0 cap [] hl (fun j u hj => by simp at hj) h1
  rcases h with ⟨rfl, h⟩ | h | ⟨g, o, rfl, h⟩
  · exact zero h
  · exact zero h
  · exact Src.ofSlice w hk ⟨g, o, none⟩ n cap news hl (fun j u hj => by rw [add_none]; exact h j u hj) h1
theorem SubH.reads {w : World} {e : Sh} {xs : List e.T} {v0 v : Value} {F : Nat -> Prop} {lo len : Nat} (h : OwnL w [.ext e xs] [v0] F) (hs : SubH v0 lo len e.n v) (hd : e.deep = false) : ReadsAs w v ((xs.drop lo).take len).length ((((xs.drop lo).take len).flatMap (flat e)).map valOf) := by
  obtain ⟨F', h', _⟩ := h.sub hs
  exact h'.reads hd
theorem RdL.reads {e : Sh} {xs : List e.T} {v : Value} {Ok : Nat -> Nat -> Prop} {w0 : World} (h : RdL w0 Ok [.ext e xs] [v]) (hd : e.deep = false) (hc : ∀ b o, Ok b o -> cellAt w b o = cellAt w0 b o) : ReadsAs w v xs.length ((xs.flatMap (flat e)).map valOf) := by
  cases h with
  | sl0 _ => exact ⟨_, _, rfl, .inr (.inl rfl)⟩
  | sl h1 h2 h3 h4 h5 =>
    obtain ⟨rfl, _⟩ := h1
    refine ⟨_, _, rfl, .inr (.inr ⟨_, _, rfl, fun j u hj => ?_⟩)⟩
    rw [<- plain_rd h4 (deep_flatMap e xs hd)] at hj
    obtain ⟨a, b⟩ := h3 j u hj
    rw [hc _ _ b]
    exact a
theorem descend_shape : ∀ (p : Path) (e : Sh) (xs : List e.T) (e1 : Sh) (ys : List e1.T) (e2 : Sh) (zs : List e2.T), descend p e xs e1 = some ys -> descend p e xs e2 = some zs -> (⟨e1, ys⟩ : (e : Sh) × List e.T) = ⟨e2, zs⟩
  | [], e, xs, e1, ys, e2, zs, h1, h2 => by
    unfold descend castL at h1 h2
    split at h1
    · rename_i he
      subst he
      cases h1
      split at h2
      · rename_i he
        subst he
        cases h2
        rfl
      · cases h2
    · cases h1
  | (i, off) :: p, e, xs, e1, ys, e2, zs, h1, h2 => by
    simp only [descend] at h1 h2
    split at h1
    · rename_i e3 ws hl
      rw [hl] at h2
      exact descend_shape p e3 ws e1 ys e2 zs h1 h2
    · cases h1
theorem matLf_reads (h : Rel c st G w tm) {us : List (Nat × UE)} (hs : ∀ k ep e xs, getA us k = some (.own ep e xs) -> getA st.us k = some (.own ep e xs)) {l : Lf} {e : Sh} {ys : List e.T} {v : Value}
    (hm : matLf us l (.sl e) = some ys) (hv : LfRel c st.us G w l v) (hd : e.deep = false) : ReadsAs w v ys.length ((ys.flatMap (flat e)).map valOf) := by
  have hcont : ∀ {k ep p e'} {zs : List e'.T}, content us k ep p e' = some zs -> content st.us k ep p e' = some zs := by
    intro k ep p e' zs hz
    obtain ⟨ep0, e0, xs0, g1, g2, g3⟩ := content_own hz
    unfold content at hz ⊢
    rw [hs _ _ _ _ g1]
    rw [g1] at hz
    exact hz
  cases l with
  | int => cases hm
  | bool => cases hm
  | str => cases hm
  | dead => cases hm
  | ext e1 zs =>
    simp only [matLf, castL] at hm
    split at hm
    · rename_i he
      subst he
      cases hm
      exact RdL.reads (show RdL c.w0 c.ok [.ext e1 zs] [v] from hv) hd (fun b o hb => h.okCell hb)
    · cases hm
  | nl e1 =>
    simp only [matLf, Option.some.injEq] at hm
    subst hm
    have : v = .slice none 0 0 := hv
    exact ⟨none, 0, this, .inl ⟨rfl, rfl⟩⟩
  | own k ep p e1 =>
    have hm := hcont (show content us k ep p e = some ys from hm)
    obtain ⟨ep0, e0, xs0, g1, g2, g3⟩ := content_own hm
    obtain ⟨en, q1, q2⟩ := hv
    rw [g1] at q1
    cases q1
    obtain ⟨zs, hd'⟩ := (q2 _ _ _ rfl).2 g2
    have := descend_shape _ _ _ _ _ _ _ g3 hd'.descend
    cases this
    obtain ⟨Fl, Fr, h3, _⟩ := hd'.own (h.unit _ _ _ _ g1)
    exact h3.reads hd
  | sub k ep p e1 lo len =>
    simp only [matLf] at hm
    split at hm
    · rename_i zs hz
      cases hm
      have hm := hcont hz
      obtain ⟨ep0, e0, xs0, g1, g2, g3⟩ := content_own hm
      obtain ⟨en, q1, q2⟩ := hv
      rw [g1] at q1
      cases q1
      obtain ⟨zs2, v0, hd', hsub⟩ := (q2 _ _ _ rfl).2 g2
      have := descend_shape _ _ _ _ _ _ _ g3 hd'.descend
      cases this
      obtain ⟨Fl, Fr, h3, _⟩ := hd'.own (h.unit _ _ _ _ g1)
      exact SubH.reads h3 hsub hd
    · cases hm
theorem OwnL.readsOwn {w : World} {e : Sh} {xs : List e.T} {v : Value} {F : Nat -> Prop} (h : OwnL w [.ext e xs] [v] F) : ∃ news F1, ReadsAs w v xs.length news /\ OwnL w (xs.flatMap (flat e)) news F1 /\ ∀ b, F1 b -> F b := by
  rcases Nat.eq_zero_or_pos xs.length with hx | hx
  · obtain ⟨A, cap, h1⟩ := h.slice_form
    have : xs = [] := List.eq_nil_of_length_eq_zero hx
    subst this
    exact ⟨[], fun _ => False, ⟨A, cap, h1, .inr (.inl rfl)⟩, .nil, fun _ q => q.elim⟩
  · obtain ⟨g, o, cap, cur, et, fr, F1, h1, h2, h3, h4, h5, h6, h7, _, h8⟩ := h.open_sl hx
    refine ⟨_, F1, ⟨_, cap, h1, .inr (.inr ⟨g, o, rfl, fun j u hj => ?_⟩)⟩, h7, fun b hb => (h8 b).2 (.inr hb)⟩
    rw [List.getElem?_take] at hj
    split at hj
    · rw [List.getElem?_drop] at hj
      rw [cellAt_of h5]
      simpa using hj
    · cases hj
theorem OwnL.one {w : World} {ls : List Lf} {vs : List Value} {F : Nat -> Prop} (h : OwnL w ls vs F) : ∀ u ∈ vs, u.oneCell' = true := by
  induction h with
  | nil => intro u hu; cases hu
  | int _ ih => intro u hu; cases hu with | head => rfl | tail _ hu => exact ih u hu
  | bool _ ih => intro u hu; cases hu with | head => rfl | tail _ hu => exact ih u hu
  | str _ ih => intro u hu; cases hu with | head => rfl | tail _ hu => exact ih u hu
  | nl _ ih => intro u hu; cases hu with | head => rfl | tail _ hu => exact ih u hu
  | sl _ _ _ _ _ _ _ _ _ _ _ _ ih => intro u hu; cases hu with | head => rfl | tail _ hu => exact ih u hu
end
end Go.Proofs.YtaflceohlijekaaGreat.Ev
namespace Go.Proofs.YtaflceohlijekaaGreat.Ev
section
variable {P : Program} {E : Env} {c : Cx} {st : St} {G G' : Gh} {w w' : World} {a : Act} {o : Oper} {K : Act -> World -> Prop} {Q : Exit -> Act -> World -> Prop} {tm : Nat -> Value}
variable {R : Type} {call : E.Call} {k : Eff -> Option R} {r : R} {pl : Plan E}
theorem own_ref (us : List (Nat × UE)) (k : Nat) (e : Sh) (xs : List e.T) (nu : List (Nat × UE)) (vs : List (Nat × List Lf)) {v : Value} (hv : G.uv k = v) (h1 : v.oneCell' = true) :
    VRel c (((k, UE.own 0 e xs) :: nu) ++ us) vs G w (.v false [.own k 0 [] e]) v := by
  refine ⟨⟨⟨_, by rw [List.cons_append, getA_cons, if_pos rfl], fun ep1 e1 xs1 he => ?_⟩, h1⟩, trivial⟩
  cases he
  exact ⟨fun q => absurd rfl q, fun _ => ⟨xs, hv ▸ .nil⟩⟩
theorem own_one {w : World} {l : Lf} {v : Value} {F : Nat -> Prop} (h : OwnL w [l] [v] F) : v.oneCell' = true := OwnL.one h v (by simp)
theorem snd_append (h : Rel c st G w (tmOf a)) (hd : ∀ d, o.dst = some d -> d < a.tmps.size /\ c.pin d = none) (hk : ∀ e, k e = some r -> After c a K (e.apply o.dst st))
    {cl : Call} (hop : o.op = .call cl) (hcl : cl.callee = .builtin .append) {t1 t2 te : Nat} (hts : cl.argTypes.toList = [t1, t2]) (hu1 : P.underlying t1 = some (.slice te)) (hu2 : ∃ e', P.underlying t2 = some (.slice e')) (hte0 : (E.ty o.type).d = .slice te) (hte : TyOk P E te)
    (hp : pre E o st = some pl) (hr : runPlan E call k pl = some r) : o.wp P a w K Q := by
  cases hdst : o.dst with
  | none => simp [pre, hop, hcl, hdst] at hp
  | some d =>
    simp only [pre, hop, hcl, hdst] at hp
    split at hp
    · rename_i x y hxy
      have hxy' := arr_of hxy
      have hts' := arr_of hts
      unfold preAppend at hp
      rw [hte0] at hp
      split at hp
      · rename_i te' la lb hd' hx hy hnone
        cases hd'
        have hvx : LfRel c st.us G w la (a.eval x) := (show VRel c st.us st.vs G w (.v false [la]) (a.eval x) from operandT_rel h hx).1.1
        have hvy : LfRel c st.us G w lb (a.eval y) := (show VRel c st.us st.vs G w (.v false [lb]) (a.eval y) from operandT_rel h hy).1.1
        obtain ⟨e', hu2⟩ := hu2
        dsimp only at hp
        split at hp
        · rename_i xs u1 hgx
          obtain ⟨Fx, hox, hg1⟩ := giveLf_own h (fun _ _ _ _ q => q) hgx hvx
          have hs1 : ∀ k ep e xs, getA (u1 ++ st.us) k = some (.own ep e xs) -> getA u1 k = none /\ getA st.us k = some (.own ep e xs) := by
            intro k ep e xs hk
            rw [getA_append] at hk
            cases hq : getA u1 k with
            | none => rw [hq] at hk; exact ⟨rfl, hk⟩
            | some en =>
              rw [hq] at hk
              simp only [Option.some.injEq] at hk
              subst hk
              cases (hg1.gone k _ hq).1
          have finish : ∀ (ys : List (E.ty te).sh.T) (nu : List (Nat × UE)) (Fy Fg : Nat -> Prop) (news : List Value), Given G st.us nu Fg -> (∀ b, Fx b -> Fg b) -> (∀ b, Fy b -> Fg b) -> Dj Fx Fy -> ReadsAs w (a.eval y) ys.length news -> OwnL w (ys.flatMap (flat (E.ty te).sh)) news Fy ->
              decide (xs.length + ys.length <= (E.ty te).lim) = true -> k ⟨.v false [.own (64 * d) 0 [] (E.ty te).sh], [], (64 * d, .own 0 (E.ty te).sh (xs ++ ys)) :: nu⟩ = some r -> o.wp P a w K Q := by
            intro ys nu Fy Fg news hg hfx hfy hdj hreads hoy hlim hke
            have hsrc := hreads.src (size := (E.ty te).sh.n) hu2 (by rw [hoy.length, flatMap_length]) hoy.one
            obtain ⟨v', w', F', r1, r2, r3, r4⟩ := append_core (P := P) (tx := t2) (ty := o.type) hu1 hte rfl hox hsrc hoy hdj (of_decide_eq_true hlim)
            obtain ⟨G', g1, g2, g3, hrel, _, _⟩ := h.newUnit hnone hg r2 (fun b hb hf => hg.foot b (hfx b hf)) r3 (fun b hb => by
              rcases r4 b hb with q | q | q
              · exact .inl (hg.foot b (hfx b q))
              · exact .inl (hg.foot b (hfy b q))
              · exact .inr q)
            refine wp_done (val := v') (e := ⟨.v false [.own (64 * d) 0 [] (E.ty te).sh], [], (64 * d, .own 0 (E.ty te).sh (xs ++ ys)) :: nu⟩) ?_ hrel (own_ref st.us (64 * d) _ _ nu _ g2 (own_one r3)) hd (hk _ hke)
            simp [execOp, hop, resolve, hcl, invoke, builtin, hxy', hts', r1]
          split at hp
          · rename_i hdeep
            split at hp
            · rename_i ys hm
              cases hp
              obtain ⟨hlim, hke⟩ := runAlts_one hr
              exact finish ys u1 (fun _ => False) Fx _ hg1 (fun _ q => q) (fun _ q => q.elim) (fun _ _ q => q) (matLf_reads h (fun k ep e xs hk => (hs1 k ep e xs hk).2) hm hvy hdeep) (plain_own (deep_flatMap _ _ hdeep)) hlim hke
            · cases hp
          · split at hp
            · rename_i ys u2 hgy
              cases hp
              obtain ⟨hlim, hke⟩ := runAlts_one hr
              obtain ⟨Fy, hoy, hg2⟩ := giveLf_own h (fun k ep e xs hk => (hs1 k ep e xs hk).2) hgy hvy
              obtain ⟨news, F1, n1, n2, n3⟩ := hoy.readsOwn
              refine finish ys (u2 ++ u1) F1 _ news (hg1.app hg2) (fun _ q => .inl q) (fun b q => .inr (n3 b q)) ?_ n1 n2 hlim hke
              intro b hb hb2
              obtain ⟨k1, ep1, e1, xs1, p1, p2, p3⟩ := hg1.foot b hb
              obtain ⟨k2, ep2, e2, xs2, q1, q2, q3⟩ := hg2.foot b (n3 b hb2)
              obtain ⟨m1, m2⟩ := hs1 _ _ _ _ q2
              exact h.dUU k1 k2 _ _ _ _ _ _ p2 m2 (fun e => by rw [e, m1] at p1; cases p1) b p3 q3
            · cases hp
        · cases hp
      · cases hp
    · cases hp
theorem zero_own {w : World} : ∀ (s : Sh), OwnL w (flat s s.dflt) (zeroVals s) (fun _ => False)
  | .int _ => .int .nil
  | .bool => .bool .nil
  | .str => .str .nil
  | .unit => .nil
  | .sl _ => .nl .nil
  | .pair a b => ((zero_own a).append (zero_own b) (fun _ h => h.elim)).eqv fun b => by simp
theorem zeros_own {w : World} (e : Sh) : ∀ (l : Nat), OwnL w ((List.replicate l e.dflt).flatMap (flat e)) (List.replicate l (zeroVals e)).flatten (fun _ => False)
  | 0 => .nil
  | l + 1 => by
    rw [List.replicate_succ, List.replicate_succ, List.flatMap_cons, List.flatten_cons]
    exact ((zero_own e).append (zeros_own e l) (fun _ h => h.elim)).eqv fun b => by simp
theorem zeroVals_length (s : Sh) : (zeroVals s).length = s.n := by
  have := (zero_own (w := default) s).length
  rw [this, flat_length]
theorem flatten_at (zs : List Value) (n : Nat) (hn : zs.length = n) : ∀ (l i : Nat), i < l * n -> (List.replicate l zs).flatten[i]? = zs[i % n]?
  | 0, i, h => by simp at h
  | l + 1, i, h => by
    rw [List.replicate_succ, List.flatten_cons]
    by_cases hi : i < n
    · rw [List.getElem?_append_left (by omega), Nat.mod_eq_of_lt hi]
    · rw [List.getElem?_append_right (by omega), hn, flatten_at zs n hn l (i - n) (by rw [Nat.add_mul] at h; omega)]
      congr 1
      exact (Nat.mod_eq_sub_mod (by omega)).symm
theorem made_take (zs : List Value) (n : Nat) (hn : zs.length = n) (l c : Nat) (h : l <= c) (z : Array Value) (hz : z.toList = zs) : ((madeCells z (c * n)).toList.drop 0).take (l * n) = (List.replicate l zs).flatten := by
  have hle : l * n <= c * n := Nat.mul_le_mul_right _ h
  have hlen : (List.replicate l zs).flatten.length = l * n := by simp [hn]
  have hzn : z.size = n := by rw [<- Array.length_toList, hz, hn]
  apply List.ext_getElem?
  intro i
  rw [List.drop_zero, List.getElem?_take]
  split
  · rename_i hi
    rw [flatten_at zs n hn l i hi]
    have hpos : 0 < n := by
      rcases Nat.eq_zero_or_pos n with q | q
      · subst q; simp at hi
      · exact q
    have hm : i % n < n := Nat.mod_lt _ hpos
    simp only [madeCells, Array.toList_map, List.getElem?_map, Array.getElem?_toList, Array.getElem?_range]
    rw [if_pos (by omega)]
    simp only [Option.map_some, hzn]
    rw [<- hz, Array.getElem?_toList, Array.getElem?_eq_getElem (by omega), getElem!_pos z (i % n) (by omega)]
  · rw [List.getElem?_eq_none (by omega)]
theorem snd_makeSlice (h : Rel c st G w (tmOf a)) (hd : ∀ d, o.dst = some d -> d < a.tmps.size /\ c.pin d = none) (hk : ∀ e, k e = some r -> After c a K (e.apply o.dst st))
    {t : Nat} {x y : Operand} (hop : o.op = .makeSlice t x y) (ht : TyOk P E t) (hte : ∀ e, (E.ty t).d = .slice e -> TyOk P E e) (hp : pre E o st = some pl) (hr : runPlan E call k pl = some r) : o.wp P a w K Q := by
  cases hdst : o.dst with
  | none => simp [pre, hop, hdst] at hp
  | some d =>
    simp only [pre, hop, hdst, preMakeSlice] at hp
    split at hp
    · rename_i te l cc hsl hx hy hnone
      cases hp
      obtain ⟨hcond, hke⟩ := runAlts_one hr
      simp only [Bool.and_eq_true, decide_eq_true_eq] at hcond
      obtain ⟨⟨h0, h1⟩, h2⟩ := hcond
      obtain ⟨u1, u2, u3⟩ := ht.slice hsl
      have hte := hte te hsl
      obtain ⟨i, z, dd, hi, _, hsize, hbytes, hlim2, hz, hzc, _⟩ := hte.info
      have vx := v_int (operand_rel h hx)
      have vy := v_int (operand_rel h hy)
      have hb : (i.bytes : Int) * cc <= 140737488355328 := by
        have a1 : (i.bytes : Int) * cc <= (i.bytes : Int) * ((E.ty te).lim : Int) := Int.mul_le_mul_of_nonneg_left h2 (by omega)
        have a2 : ((i.bytes * (E.ty te).lim : Nat) : Int) <= 140737488355328 := by omega
        rw [Int.natCast_mul] at a2
        omega
      have hr1 := run_make (P := P) w t te i z u1 hi hz .i64 .i64 l cc h0 h1 (by omega) (by omega)
      have hml : cc.toNat <= maxLen := by unfold maxLen; omega
      have hll : l.toNat <= cc.toNat := by omega
      have hzl : z.cells.toList.length = (E.ty te).sh.n := by rw [hzc, zeroVals_length]
      have hcells : OwnL (w.alloc (.cells (madeCells z.cells (cc.toNat * i.size)) te)) ((List.replicate l.toNat (E.ty te).sh.dflt).flatMap (flat (E.ty te).sh)) (((madeCells z.cells (cc.toNat * i.size)).toList.drop 0).take (l.toNat * (E.ty te).sh.n)) (fun _ => False) := by
        rw [hsize, made_take _ _ hzl l.toNat cc.toNat hll z.cells rfl, hzc]
        exact zeros_own _ _
      have hown : OwnL (w.alloc (.cells (madeCells z.cells (cc.toNat * i.size)) te)) [.ext (E.ty te).sh (List.replicate l.toNat (E.ty te).sh.dflt)] [.slice (some ⟨w.heap.size, 0, none⟩) l.toNat cc.toNat] (fun b => b = w.heap.size \/ False \/ False) :=
        .sl (by simp) hll hml (by rw [size_madeCells, hsize]; omega) (heap_alloc_new w _) (fun j _ => by simp) hcells (fun q => q) .nil (fun q => q) (fun _ q _ => q)
      obtain ⟨G', g1, g2, g3, hrel, _, _⟩ := h.newUnit hnone (Given.zero G st.us) (KeptW.alloc (fun _ => False) (fun _ _ => False) w _) (fun _ _ q => q.elim) hown (fun b hb => .inr (by
        rcases hb with q | q | q
        · omega
        · exact q.elim
        · exact q.elim))
      exact wp_done (e := ⟨.v false [.own (64 * d) 0 [] (E.ty te).sh], [], [(64 * d, .own 0 (E.ty te).sh (List.replicate l.toNat (E.ty te).sh.dflt))]⟩) (by simp [execOp, hop, vx, vy, hr1]) hrel (own_ref st.us (64 * d) _ _ [] _ g2 rfl) hd (hk _ hke)
    · cases hp
end
end Go.Proofs.YtaflceohlijekaaGreat.Ev
namespace Go.Proofs.YtaflceohlijekaaGreat.Ev
theorem nodupB_cons {h : Nat} {t : List Nat} (hn : nodupB (h :: t) = true) : (∀ x ∈ t, x ≠ h) /\ nodupB t = true := by
  simp only [nodupB, Bool.and_eq_true, Bool.not_eq_true', List.any_eq_false] at hn
  refine ⟨fun x hx e => ?_, hn.2⟩
  subst e
  exact hn.1 x hx (Nat.beq_refl x)
theorem fill_run (place : Nat -> Option (Nat × Nat)) (hdis : ∀ i j o1 s1 o2 s2, i ≠ j -> place i = some (o1, s1) -> place j = some (o2, s2) -> o1 + s1 <= o2 \/ o2 + s2 <= o1) : ∀ (parts : List (Nat × Value)) (cells : Array Value),
    nodupB (parts.map (·.1)) = true -> (∀ i v, (i, v) ∈ parts -> ∃ off sz, place i = some (off, sz) /\ v.cells.size = sz /\ off + sz <= cells.size) ->
    ∃ r, Instr.fill place cells parts = some r /\ r.size = cells.size /\
      (∀ k, (∀ i v off sz, (i, v) ∈ parts -> place i = some (off, sz) -> ¬ (off <= k /\ k < off + sz)) -> r[k]? = cells[k]?) /\
      (∀ i v off sz, (i, v) ∈ parts -> place i = some (off, sz) -> ∀ j, j < sz -> r[off + j]? = v.cells[j]?)
  | [], cells, _, _ => ⟨cells, rfl, rfl, fun _ _ => rfl, fun _ _ _ _ h => by cases h⟩
  | (i, v) :: rest, cells, hnd, hp => by
    obtain ⟨off, sz, h1, h2, h3⟩ := hp i v (List.mem_cons_self)
    obtain ⟨g1, g2⟩ := Great.foldl_set off v.cells.toList 0 cells
    obtain ⟨n1, n2⟩ := nodupB_cons hnd
    obtain ⟨r, r1, r2, r3, r4⟩ := fill_run place hdis rest ((v.cells.toList.zipIdx 0).foldl (fun cs (x : Value × Nat) => cs.setIfInBounds (off + x.2) x.1) cells) n2 (fun i' v' hm => by
      obtain ⟨o', s', a, b, c⟩ := hp i' v' (List.mem_cons_of_mem _ hm)
      exact ⟨o', s', a, b, by rw [g1]; exact c⟩)
    have hin : ∀ j, j < sz -> ((v.cells.toList.zipIdx 0).foldl (fun cs (x : Value × Nat) => cs.setIfInBounds (off + x.2) x.1) cells)[off + j]? = v.cells[j]? := by
      intro j hj
      rw [g2, if_pos (by simp; omega)]
      simp
    refine ⟨r, ?_, by rw [r2, g1], fun k hk => ?_, fun i' v' o' s' hm hpl j hj => ?_⟩
    · simp only [Instr.fill, h1]
      rw [if_neg (by simp [h2]; omega)]
      rw [<- r1]
      congr 1
      rw [<- Array.foldl_toList]
      congr 1
      exact Array.toList_zipIdx
    · rw [r3 k (fun i' v' o' s' hm => hk i' v' o' s' (List.mem_cons_of_mem _ hm)), g2, if_neg]
      have := hk i v off sz (List.mem_cons_self) h1
      simp
      omega
    · cases hm with
      | head =>
        rw [h1] at hpl
        cases hpl
        rw [r3 _ (fun i2 v2 o2 s2 hm2 hpl2 => ?_), hin j hj]
        have hne : i2 ≠ i := n1 i2 (List.mem_map.2 ⟨_, hm2, rfl⟩)
        rcases hdis i2 i _ _ _ _ hne hpl2 h1 with q | q <;> omega
      | tail _ hm => exact r4 i' v' o' s' hm hpl j hj
section
variable {P : Program} {E : Env} {c : Cx} {st : St} {G G' : Gh} {w w' : World} {a : Act} {o : Oper} {K : Act -> World -> Prop} {Q : Exit -> Act -> World -> Prop} {tm : Nat -> Value}
variable {R : Type} {call : E.Call} {k : Eff -> Option R} {r : R} {pl : Plan E}
theorem fieldsOk_place : ∀ {fs : List (Nat × Nat)} {off : Nat} {s : Sh} {i o t : Nat}, fieldsOk P E fs off s = true -> fs[i]? = some (o, t) -> off <= o /\ o + (E.ty t).sh.n <= off + s.n /\ ∀ j o2 t2, i < j -> fs[j]? = some (o2, t2) -> o + (E.ty t).sh.n <= o2
  | [], _, _, i, _, _, _, hi => by simp at hi
  | [(o', t')], off, s, i, o, t, h, hi => by
    simp only [fieldsOk, Bool.and_eq_true, beq_iff_eq, decide_eq_true_eq] at h
    obtain ⟨⟨⟨h1, h2⟩, h3⟩, h4⟩ := h
    cases i with
    | zero =>
      simp only [List.getElem?_cons_zero, Option.some.injEq, Prod.mk.injEq] at hi
      obtain ⟨rfl, rfl⟩ := hi
      refine ⟨by omega, by rw [h1, h2]; exact Nat.le_refl _, fun j o2 t2 hj hg => ?_⟩
      cases j with
      | zero => omega
      | succ j => simp at hg
    | succ i => simp at hi
  | (o', t') :: q :: r, off, s, i, o, t, h, hi => by
    cases s with
    | pair a b =>
      simp only [fieldsOk, Bool.and_eq_true, beq_iff_eq, decide_eq_true_eq] at h
      obtain ⟨⟨⟨⟨h1, h2⟩, h3⟩, h4⟩, h5⟩ := h
      cases i with
      | zero =>
        simp only [List.getElem?_cons_zero, Option.some.injEq, Prod.mk.injEq] at hi
        obtain ⟨rfl, rfl⟩ := hi
        refine ⟨by omega, by rw [h1, h2]; simp only [Sh.n]; omega, fun j o2 t2 hj hg => ?_⟩
        cases j with
        | zero => omega
        | succ j =>
          have := (fieldsOk_place h5 (by simpa using hg)).1
          rw [h2]
          omega
      | succ i =>
        obtain ⟨g1, g2, g3⟩ := fieldsOk_place h5 (show (q :: r)[i]? = some (o, t) by simpa using hi)
        refine ⟨by omega, by simp only [Sh.n]; omega, fun j o2 t2 hj hg => ?_⟩
        cases j with
        | zero => omega
        | succ j => exact g3 j o2 t2 (by omega) (by simpa using hg)
    | _ => simp [fieldsOk] at h
theorem find_eval (a : Act) : ∀ (parts : List (Nat × Operand)) (i j : Nat) (x : Operand), parts.find? (fun q => Nat.beq q.1 i) = some (j, x) -> j = i /\ (i, x) ∈ parts := by
  intro parts i j x h
  have h1 := List.find?_some h
  have h2 := List.mem_of_find?_eq_some h
  have : j = i := beq_of h1
  subst this
  exact ⟨rfl, h2⟩
theorem build_ls (h : Rel c st G w (tmOf a)) (cells zero : Array Value) (parts : List (Nat × Operand)) : ∀ (fs : List (Nat × Nat)) (off : Nat) (s : Sh) (i : Nat) (ls : List Lf), fieldsOk P E fs off s = true -> buildLs E st fs parts i [] = some ls ->
    (∀ k, k < s.n -> zero[off + k]? = (zeroVals s)[k]?) ->
    (∀ j o t x, fs[j]? = some (o, t) -> parts.find? (fun q => Nat.beq q.1 (i + j)) = some (i + j, x) -> ∀ k, k < (E.ty t).sh.n -> cells[o + k]? = (a.eval x).cells[k]?) ->
    (∀ j o t, fs[j]? = some (o, t) -> parts.find? (fun q => Nat.beq q.1 (i + j)) = none -> ∀ k, k < (E.ty t).sh.n -> cells[o + k]? = zero[o + k]?) ->
    ∃ vals, LsRel c st.us G w ls vals /\ vals.length = s.n /\ ∀ k, k < s.n -> cells[off + k]? = vals[k]?
  | [], off, s, i, ls, hf, hb, hz, h1, h2 => by
    cases s with
    | unit => simp only [buildLs, Option.some.injEq] at hb; subst hb; exact ⟨[], trivial, rfl, fun k hk => by simp [Sh.n] at hk⟩
    | _ => simp [fieldsOk] at hf
  | (o', t') :: rest, off, s, i, ls, hf, hb, hz, h1, h2 => by
    have hshape : o' = off /\ (∃ s2, (rest = [] /\ s = (E.ty t').sh /\ s2 = Sh.unit) \/ (s = .pair (E.ty t').sh s2 /\ fieldsOk P E rest (off + (E.ty t').sh.n) s2 = true)) := by
      cases rest with
      | nil =>
        simp only [fieldsOk, Bool.and_eq_true, beq_iff_eq, decide_eq_true_eq] at hf
        exact ⟨hf.1.1.1, .unit, .inl ⟨rfl, hf.1.1.2.symm, rfl⟩⟩
      | cons q r =>
        cases s with
        | pair sa sb =>
          simp only [fieldsOk, Bool.and_eq_true, beq_iff_eq, decide_eq_true_eq] at hf
          obtain ⟨⟨⟨⟨f1, f2⟩, f3⟩, f4⟩, f5⟩ := hf
          exact ⟨f1, sb, .inr ⟨by rw [f2], by rw [f2]; exact f5⟩⟩
        | _ => simp [fieldsOk] at hf
    obtain ⟨rfl, s2, hs⟩ := hshape
    simp only [buildLs] at hb
    split at hb
    · cases hb
    · rename_i r' hr'
      have field : ∃ lf, ls = lf ++ r' /\ ∃ vf, LsRel c st.us G w lf vf /\ vf.length = (E.ty t').sh.n /\ ∀ k, k < (E.ty t').sh.n -> cells[o' + k]? = vf[k]? := by
        split at hb
        · rename_i hfind
          simp only [Option.some.injEq] at hb
          refine ⟨_, hb.symm, zeroVals (E.ty t').sh, zero_rel _, zeroVals_length _, fun k hk => ?_⟩
          rw [h2 0 o' t' rfl (by simpa using hfind) k hk]
          rcases hs with ⟨_, rfl, _⟩ | ⟨rfl, _⟩
          · exact hz k hk
          · rw [hz k (by simp only [Sh.n]; omega)]
            simp only [zeroVals]
            rw [List.getElem?_append_left (by rw [zeroVals_length]; exact hk)]
        · rename_i j x hfind
          split at hb
          · rename_i g lf hx
            split at hb
            · rename_i hl
              simp only [Option.some.injEq] at hb
              obtain ⟨cs, hcs, hls⟩ := VLs.cells (show VLs c st.us G w g lf (a.eval x) from operandT_rel h hx)
              have hji := (find_eval a parts i j x hfind).1
              subst hji
              refine ⟨lf, hb.symm, cs, hls, by rw [hls.length, hl], fun k hk => ?_⟩
              rw [h1 0 o' t' x rfl (by simpa using hfind) k hk, hcs]
              simp
            · cases hb
          · cases hb
      obtain ⟨lf, rfl, vf, v1, v2, v3⟩ := field
      rcases hs with ⟨rfl, rfl, rfl⟩ | ⟨rfl, hf2⟩
      · simp only [buildLs, Option.some.injEq] at hr'
        subst hr'
        exact ⟨vf, by simpa using v1, v2, v3⟩
      · obtain ⟨vr, w1, w2, w3⟩ := build_ls h cells zero parts rest (o' + (E.ty t').sh.n) s2 (i + 1) r' hf2 hr' (fun k hk => by
            have := hz ((E.ty t').sh.n + k) (by simp only [Sh.n]; omega)
            rw [<- Nat.add_assoc] at this
            rw [this]
            simp only [zeroVals]
            rw [List.getElem?_append_right (by rw [zeroVals_length]; omega), zeroVals_length, Nat.add_sub_cancel_left])
          (fun j o t x hj hfd => h1 (j + 1) o t x (by simpa using hj) (by rw [show i + (j + 1) = i + 1 + j by omega]; exact hfd))
          (fun j o t hj hfd => h2 (j + 1) o t (by simpa using hj) (by rw [show i + (j + 1) = i + 1 + j by omega]; exact hfd))
        refine ⟨vf ++ vr, LsRel.append v1 w1, by simp [v2, w2, Sh.n], fun k hk => ?_⟩
        by_cases hkl : k < (E.ty t').sh.n
        · rw [List.getElem?_append_left (by omega)]
          exact v3 k hkl
        · simp only [Sh.n] at hk
          rw [List.getElem?_append_right (by omega), v2]
          have := w3 (k - (E.ty t').sh.n) (by omega)
          rw [<- this]
          congr 1
          omega
theorem places_some : ∀ (fields : List Field) (fs : List (Nat × Nat)), fields.map (fun f => (f.offset, f.type)) = fs -> (∀ i o t : Nat, fs[i]? = some (o, t) -> (P.info? t).map (·.size) = some (E.ty t).sh.n) ->
    fields.mapM (fun f => (P.info? f.type).map fun i => (f.offset, i.size)) = some (fs.map fun q => (q.1, (E.ty q.2).sh.n))
  | [], fs, h, _ => by subst h; rfl
  | f :: r, fs, h, hs => by
    subst h
    have h0 := hs 0 f.offset f.type rfl
    have ih := places_some r _ rfl (fun i o t hi => hs (i + 1) o t (by simpa using hi))
    cases hi : P.info? f.type with
    | none => simp [hi] at h0
    | some inf =>
      simp only [hi, Option.map_some, Option.some.injEq] at h0
      simp [hi, ih, h0]
theorem fieldsOk_size {fs : List (Nat × Nat)} {off : Nat} {s : Sh} (h : fieldsOk P E fs off s = true) : ∀ i o t : Nat, fs[i]? = some (o, t) -> (P.info? t).map (·.size) = some (E.ty t).sh.n := by
  induction fs generalizing off s with
  | nil => intro i o t hi; simp at hi
  | cons q r ih =>
    intro i o t hi
    cases r with
    | nil =>
      obtain ⟨o', t'⟩ := q
      simp only [fieldsOk, Bool.and_eq_true, beq_iff_eq, decide_eq_true_eq] at h
      cases i with
      | zero =>
        simp only [List.getElem?_cons_zero, Option.some.injEq, Prod.mk.injEq] at hi
        obtain ⟨rfl, rfl⟩ := hi
        rw [h.1.2, h.1.1.2]
      | succ i => simp at hi
    | cons q2 r2 =>
      obtain ⟨o', t'⟩ := q
      cases s with
      | pair a b =>
        simp only [fieldsOk, Bool.and_eq_true, beq_iff_eq, decide_eq_true_eq] at h
        cases i with
        | zero =>
          simp only [List.getElem?_cons_zero, Option.some.injEq, Prod.mk.injEq] at hi
          obtain ⟨rfl, rfl⟩ := hi
          rw [h.1.1.2, h.1.1.1.2]
        | succ i => exact ih h.2 i o t (by simpa using hi)
      | _ => simp [fieldsOk] at h
theorem buildLs_part {parts : List (Nat × Operand)} : ∀ (fs : List (Nat × Nat)) (i : Nat) (ls : List Lf), buildLs E st fs parts i [] = some ls -> ∀ (j o t : Nat) (x : Operand), fs[j]? = some (o, t) -> parts.find? (fun q => Nat.beq q.1 (i + j)) = some (i + j, x) ->
    ∃ g lf, operandT E st t x = some (.v g lf) /\ lf.length = (E.ty t).sh.n
  | [], i, ls, h, j, o, t, x, hj, hf => by simp at hj
  | (o', t') :: rest, i, ls, h, j, o, t, x, hj, hf => by
    simp only [buildLs] at h
    split at h
    · cases h
    · rename_i r' hr'
      cases j with
      | zero =>
        simp only [List.getElem?_cons_zero, Option.some.injEq, Prod.mk.injEq] at hj
        obtain ⟨rfl, rfl⟩ := hj
        rw [Nat.add_zero] at hf
        rw [hf] at h
        simp only at h
        split at h
        · rename_i g lf hx
          split at h
          · rename_i hl
            exact ⟨g, lf, hx, hl⟩
          · cases h
        · cases h
      | succ j => exact buildLs_part rest (i + 1) r' hr' j o t x (by simpa using hj) (by rw [show i + 1 + j = i + (j + 1) by omega]; exact hf)
theorem find_mem : ∀ (parts : List (Nat × Operand)), nodupB (parts.map (·.1)) = true -> ∀ (i : Nat) (x : Operand), (i, x) ∈ parts -> parts.find? (fun q => Nat.beq q.1 i) = some (i, x)
  | [], _, _, _, h => by cases h
  | q :: t, hn, i, x, h => by
    obtain ⟨n1, n2⟩ := nodupB_cons hn
    cases h with
    | head => simp [List.find?, Nat.beq_refl]
    | tail _ h =>
      have hne : i ≠ q.1 := n1 i (List.mem_map.2 ⟨_, h, rfl⟩)
      have : Nat.beq q.1 i = false := by
        cases hb : Nat.beq q.1 i with
        | true => exact absurd (beq_of hb).symm hne
        | false => rfl
      simp only [List.find?, this]
      exact find_mem t n2 i x h
theorem snd_build (h : Rel c st G w (tmOf a)) (hd : ∀ d, o.dst = some d -> d < a.tmps.size /\ c.pin d = none) (hk : ∀ e, k e = some r -> After c a K (e.apply o.dst st))
    {t : Nat} {parts : Array (Nat × Operand)} (hop : o.op = .build t parts) (ht : TyOk P E t) (hp : pre E o st = some pl) (hr : runPlan E call k pl = some r) : o.wp P a w K Q := by
  simp only [pre, hop, preBuild] at hp
  split at hp
  · rename_i fs hfs
    cases hc : (parts.toList.all (fun q => Nat.blt q.1 fs.length) && nodupB (parts.toList.map (·.1))) with
    | false => rw [hc] at hp; cases hp
    | true =>
      rw [hc] at hp
      simp only [cond_true] at hp
      simp only [Bool.and_eq_true, List.all_eq_true] at hc
      obtain ⟨hc1, hc2⟩ := hc
      split at hp
      · rename_i ls hls
        cases hp
        obtain ⟨_, hke⟩ := runAlts_one hr
        obtain ⟨fields, f1, f2, f3, f4⟩ := ht.struct hfs
        obtain ⟨inf, z, dd, hi, hu, hsize, _, _, hz, hzc, _⟩ := ht.info
        have hplaces := places_some (P := P) (E := E) fields.toList fs f2 (fieldsOk_size f3)
        have hplace : ∀ i off sz : Nat, ((fs.map fun q => (q.1, (E.ty q.2).sh.n)).toArray[i]?) = some (off, sz) -> ∃ t', fs[i]? = some (off, t') /\ sz = (E.ty t').sh.n := by
          intro i off sz hi
          simp only [List.getElem?_toArray, List.getElem?_map] at hi
          cases hq : fs[i]? with
          | none => rw [hq] at hi; cases hi
          | some q =>
            rw [hq] at hi
            simp only [Option.map_some, Option.some.injEq, Prod.mk.injEq] at hi
            obtain ⟨rfl, rfl⟩ := hi
            exact ⟨q.2, rfl, rfl⟩
        have hzl : z.cells.size = (E.ty t).sh.n := by rw [<- Array.length_toList, hzc, zeroVals_length]
        have hfit : ∀ i x, (i, x) ∈ parts.toList -> ∃ o' t', fs[i]? = some (o', t') /\ (a.eval x).cells.size = (E.ty t').sh.n := by
          intro i x hm
          have hlt : i < fs.length := blt_true (hc1 _ hm)
          obtain ⟨o', t', hq⟩ : ∃ o' t', fs[i]? = some (o', t') := ⟨fs[i].1, fs[i].2, List.getElem?_eq_getElem hlt⟩
          refine ⟨o', t', hq, ?_⟩
          obtain ⟨g, lf, e1, e2⟩ := buildLs_part fs 0 ls hls i o' t' x hq (by rw [Nat.zero_add]; exact find_mem _ hc2 i x hm)
          obtain ⟨cs, hcs, hlsr⟩ := VLs.cells (show VLs c st.us G w g lf (a.eval x) from operandT_rel h e1)
          rw [hcs, <- e2, <- hlsr.length]
          simp
        obtain ⟨r', r1, r2, r3, r4⟩ := fill_run (fun i => (fs.map fun q => (q.1, (E.ty q.2).sh.n)).toArray[i]?) (fun i j o1 s1 o2 s2 hne h1 h2 => by
          obtain ⟨t1, a1, rfl⟩ := hplace _ _ _ h1
          obtain ⟨t2, a2, rfl⟩ := hplace _ _ _ h2
          rcases Nat.lt_or_gt_of_ne hne with q | q
          · exact .inl ((fieldsOk_place f3 a1).2.2 j _ _ q a2)
          · exact .inr ((fieldsOk_place f3 a2).2.2 i _ _ q a1)) (parts.toList.map fun q => (q.1, a.eval q.2)) z.cells (by rw [List.map_map]; exact hc2) (fun i v hm => by
          obtain ⟨q, hq, he⟩ := List.mem_map.1 hm
          cases he
          obtain ⟨o', t', b1, b2⟩ := hfit _ _ hq
          refine ⟨o', _, by simp [b1], b2, ?_⟩
          rw [hzl]
          have := (fieldsOk_place f3 b1).2.1
          omega)
        obtain ⟨vals, v1, v2, v3⟩ := build_ls h r' z.cells parts.toList fs 0 (E.ty t).sh 0 ls f3 hls (fun k hk => by rw [Nat.zero_add, <- Array.getElem?_toList, hzc]) (fun j o' t' x hj hfd k hk => by
            rw [Nat.zero_add] at hfd
            obtain ⟨_, hm⟩ := find_eval a _ _ _ _ hfd
            exact r4 j (a.eval x) o' _ (List.mem_map.2 ⟨_, hm, rfl⟩) (by simp [hj]) k hk) (fun j o' t' hj hfd k hk => by
            rw [Nat.zero_add] at hfd
            refine r3 _ (fun i v off sz hm hpl => ?_)
            obtain ⟨q, hq, he⟩ := List.mem_map.1 hm
            cases he
            obtain ⟨t2, c1, rfl⟩ := hplace _ _ _ hpl
            have hne : q.1 ≠ j := by
              intro e
              have := List.find?_eq_none.1 hfd q hq
              rw [e] at this
              exact this (Nat.beq_refl j)
            rcases Nat.lt_or_gt_of_ne hne with p | p
            · have := (fieldsOk_place f3 c1).2.2 j _ _ p hj; omega
            · have := (fieldsOk_place f3 hj).2.2 q.1 _ _ p c1; omega)
        have hr' : r'.toList = vals := by
          apply List.ext_getElem?
          intro k
          rw [Array.getElem?_toList]
          by_cases hk : k < (E.ty t).sh.n
          · have := v3 k hk
            rwa [Nat.zero_add] at this
          · rw [Array.getElem?_eq_none (by omega), List.getElem?_eq_none (by omega)]
        have hbuilt : P.built t (parts.map fun q => (q.1, a.eval q.2)).toList = some r' := by
          unfold Program.built
          rw [hi, f1]
          simp only [hz, hplaces]
          simpa using r1
        refine wp_now h (val := .agg r') ?_ (show VRel c st.us st.vs G w (.v true ls) (.agg r') from ⟨vals, by rw [<- hr'], v1⟩) hd (hk _ hke)
        have := run_build (P := P) w t (parts.map fun q => (q.1, a.eval q.2)) r' hbuilt
        simp only [execOp, hop, Sem.run_bind, this, Result.andThen_ok, Sem.run_pure]
      · cases hp
  · cases hp
end
end Go.Proofs.YtaflceohlijekaaGreat.Ev
namespace Go.Proofs.YtaflceohlijekaaGreat.Ev
section
variable {P : Program} {E : Env} {c : Cx} {st : St} {G G' : Gh} {w w' : World} {a : Act} {o : Oper} {K : Act -> World -> Prop} {Q : Exit -> Act -> World -> Prop} {tm : Nat -> Value}
variable {R : Type} {call : E.Call} {k : Eff -> Option R} {r : R} {pl : Plan E}
theorem litXs_own (h : Rel c st G w (tmOf a)) {te : Nat} : ∀ (parts : List (Nat × Operand)) (i : Nat) (us : List (Nat × UE)) (xs : List (E.ty te).sh.T) (u : List (Nat × UE)),
    (∀ k ep e xs, getA us k = some (.own ep e xs) -> getA st.us k = some (.own ep e xs)) -> litXs E us st (E.ty te).sh te parts i = some (xs, u) ->
    ∃ (vals : List Value) (F : Nat -> Prop), parts.map (fun q => (q.1, a.eval q.2)) = (vals.zipIdx i).map (fun x => (x.2, x.1)) /\ (∀ v ∈ vals, v.cells.size = (E.ty te).sh.n) /\
      OwnL w (xs.flatMap (flat (E.ty te).sh)) (vals.flatMap fun v => v.cells.toList) F /\ Given G us u F /\ xs.length = parts.length /\ vals.length = parts.length
  | [], i, us, xs, u, hs, hl => by
    simp only [litXs, Option.some.injEq, Prod.mk.injEq] at hl
    obtain ⟨rfl, rfl⟩ := hl
    exact ⟨[], fun _ => False, rfl, fun v hv => (by cases hv), .nil, Given.zero G us, rfl, rfl⟩
  | (j, x) :: t, i, us, xs, u, hs, hl => by
    simp only [litXs] at hl
    split at hl
    · rename_i hj
      subst hj
      split at hl
      · rename_i g ls hx
        split at hl
        · rename_i y u1 hg
          split at hl
          · rename_i r2 u2 hrest
            cases hl
            obtain ⟨cs, hcs, hls⟩ := VLs.cells (show VLs c st.us G w g ls (a.eval x) from operandT_rel h hx)
            obtain ⟨v1, v2, F1, rfl, a1, a2, a3, a4⟩ := give_own h (E.ty te).sh us ls y u1 [] cs hs hg hls
            have hv2 : v2 = [] := by have := a2.length; simpa using this
            subst hv2
            rw [List.append_nil] at hcs
            have hs2 : ∀ k ep e xs, getA (u1 ++ us) k = some (.own ep e xs) -> getA u1 k = none /\ getA us k = some (.own ep e xs) := by
              intro k ep e xs hk
              rw [getA_append] at hk
              cases hq : getA u1 k with
              | none => rw [hq] at hk; exact ⟨rfl, hk⟩
              | some en =>
                rw [hq] at hk
                simp only [Option.some.injEq] at hk
                subst hk
                cases (a4.gone k _ hq).1
            obtain ⟨vals, F2, b1, b2, b3, b4, b5, b6⟩ := litXs_own h t (j + 1) (u1 ++ us) r2 u2 (fun k ep e xs hk => hs _ _ _ _ (hs2 k ep e xs hk).2) hrest
            refine ⟨a.eval x :: vals, fun b => F1 b \/ F2 b, ?_, ?_, ?_, a4.app b4, by simp [b5], by simp [b6]⟩
            · rw [List.map_cons, b1, List.zipIdx_cons, List.map_cons]
            · intro v hv
              cases hv with
              | head => rw [hcs]; simpa using a1
              | tail _ hv => exact b2 v hv
            · rw [List.flatMap_cons, List.flatMap_cons, hcs]
              refine a3.append b3 ?_
              intro b hb hb2
              obtain ⟨k1, ep1, e1, xs1, p1, p2, p3⟩ := a4.foot b hb
              obtain ⟨k2, ep2, e2, xs2, q1, q2, q3⟩ := b4.foot b hb2
              obtain ⟨m1, m2⟩ := hs2 _ _ _ _ q2
              exact h.dUU k1 k2 _ _ _ _ _ _ (hs _ _ _ _ p2) (hs _ _ _ _ m2) (fun e => by rw [e, m1] at p1; cases p1) b p3 q3
          · cases hl
        · cases hl
      · cases hl
    · cases hl
theorem snd_buildSlice (h : Rel c st G w (tmOf a)) (hd : ∀ d, o.dst = some d -> d < a.tmps.size /\ c.pin d = none) (hk : ∀ e, k e = some r -> After c a K (e.apply o.dst st))
    {t n : Nat} {parts : Array (Nat × Operand)} (hop : o.op = .buildSlice t n parts) (ht : TyOk P E t) (hte : ∀ e, (E.ty t).d = .slice e -> TyOk P E e) (hp : pre E o st = some pl) (hr : runPlan E call k pl = some r) : o.wp P a w K Q := by
  cases hdst : o.dst with
  | none => simp [pre, hop, hdst] at hp
  | some d =>
    simp only [pre, hop, hdst, preBuildSlice] at hp
    split at hp
    · rename_i te hsl
      split at hp
      · rename_i hcond
        obtain ⟨hn, hpos, hcap⟩ := hcond
        split at hp
        · rename_i xs u1 hlit
          split at hp
          · rename_i hnone
            cases hp
            obtain ⟨_, hke⟩ := runAlts_one hr
            obtain ⟨q1, q2, q3⟩ := ht.slice hsl
            have hte := hte te hsl
            obtain ⟨i, z, dd, hi, _, hsize, hbytes, hlim2, hz, hzc, _⟩ := hte.info
            obtain ⟨vals, F, b1, b2, b3, b4, b5, b6⟩ := litXs_own h parts.toList 0 st.us xs u1 (fun _ _ _ _ q => q) hlit
            have hfill := Great.fill_whole hpos vals ((Array.range (n * (E.ty te).sh.n)).map (z.cells[· % z.cells.size]!)) b2 (by simp [b6, hn])
            have hzsize : z.cells.size = (E.ty te).sh.n := by rw [<- Array.length_toList, hzc, zeroVals_length]
            have hparts : (parts.map fun q => (q.1, a.eval q.2)).toList = (vals.zipIdx 0).map (fun x => (x.2, x.1)) := by rw [Array.toList_map]; exact b1
            have hrun : (Instr.buildSlice t n (parts.map fun q => (q.1, a.eval q.2))).run P w = .ok (.slice (some ⟨w.heap.size, 0, none⟩) n n) (w.alloc (.cells (vals.flatMap fun v => v.cells.toList).toArray te)) := by
              have hle : ¬ (n * (E.ty te).sh.n > 2 ^ 24) := by omega
              by_cases h0 : n * (E.ty te).sh.n = 0
              · have hn0 : n = 0 := by
                  rcases Nat.mul_eq_zero.1 h0 with q | q
                  · exact q
                  · omega
                have hv0 : vals = [] := List.eq_nil_of_length_eq_zero (by omega)
                subst hv0
                have hp0 : parts.toList = [] := List.eq_nil_of_length_eq_zero (by omega)
                have hp0' := arr_of hp0
                subst hn0
                simp [Instr.buildSlice, run_underlying q1, hte.size, hp0', Instr.fill, newRow, Array.range_zero']
              · simp only [Instr.buildSlice, Sem.run_bind, run_underlying q1, Result.andThen_ok, hte.size, hle, if_false, h0, hparts]
                simp only [Sem.run_bind, zeroValue, typeInfo, run_program, hi, hz, Sem.run_pure, Result.andThen_ok, hfill]
                simp [newRow]
            have hflat : (vals.flatMap fun v => v.cells.toList).length = n * (E.ty te).sh.n := by rw [b3.length, flatMap_length, b5, hn]
            have hown : OwnL (w.alloc (.cells (vals.flatMap fun v => v.cells.toList).toArray te)) [.ext (E.ty te).sh xs] [.slice (some ⟨w.heap.size, 0, none⟩) n n] (fun b => b = w.heap.size \/ F b \/ False) := by
              refine .sl (by omega) (Nat.le_refl _) ?_ ?_ (heap_alloc_new w _) (fun j _ => by simp) ?_ ?_ .nil (fun q => q) (fun _ _ q => q)
              · have : n <= n * (E.ty te).sh.n := Nat.le_mul_of_pos_right _ hpos
                unfold maxLen
                omega
              · simp [hflat]
              · simp only [List.drop_zero]
                rw [List.take_of_length_le (by simp [hflat])]
                exact b3.frame fun b hb => heap_alloc_old w _ _ (b3.lt b hb)
              · intro q
                have := b3.lt _ q
                omega
            obtain ⟨G', g1, g2, g3, hrel, _, _⟩ := h.newUnit hnone b4 (KeptW.alloc (fun _ => False) (fun _ _ => False) w _) (fun _ _ q => q.elim) hown (fun b hb => by
              rcases hb with q | q | q
              · exact .inr (by omega)
              · exact .inl (b4.foot b q)
              · exact q.elim)
            refine wp_done (val := .slice (some ⟨w.heap.size, 0, none⟩) n n) (e := ⟨.v false [.own (64 * d) 0 [] (E.ty te).sh], [], (64 * d, .own 0 (E.ty te).sh xs) :: u1⟩) ?_ hrel (own_ref st.us (64 * d) _ _ u1 _ g2 rfl) hd (hk _ hke)
            simp only [execOp, hop, Sem.run_bind, hrun, Result.andThen_ok, Sem.run_pure]
          · cases hp
        · cases hp
      · cases hp
    · cases hp
theorem snd_convInt (h : Rel c st G w (tmOf a)) (hd : ∀ d, o.dst = some d -> d < a.tmps.size /\ c.pin d = none) (hk : ∀ e, k e = some r -> After c a K (e.apply o.dst st))
    {s t : Nat} {x : Operand} (hop : o.op = .convert s t x) (ht : TyOk P E t) (hta : (E.ty t).d = .scalar) (hs : ∃ kk, P.underlying s = some (.int kk)) (hi : ∃ kk, (E.ty t).sh = .int kk)
    (hp : pre E o st = some pl) (hr : runPlan E call k pl = some r) : o.wp P a w K Q := by
  obtain ⟨kk, hi⟩ := hi
  obtain ⟨ks, hs⟩ := hs
  cases hdst : o.dst with
  | none => simp [pre, hop, hdst] at hp
  | some d =>
    simp only [pre, hop, hdst, preConvert, hi] at hp
    split at hp
    · rename_i k' _ k2 n heq hx
      cases heq
      cases hp
      obtain ⟨_, hke⟩ := runAlts_one hr
      have hv := v_int (show VRel c st.us st.vs G w (.v false [.int k2 n]) (a.eval x) from operandT_rel h hx)
      obtain ⟨dd, u1, u2, _⟩ := ht.scalar hta
      have hdd : dd = .int kk := by
        rcases u2 with ⟨_, q⟩ | ⟨k3, rfl, q⟩ | ⟨_, q⟩
        · rw [hi] at q; cases q
        · rw [hi] at q; cases q; rfl
        · rw [hi] at q; cases q
      subst hdd
      exact wp_now h (val := .int kk (kk.wrap n)) (by simp [execOp, hop, hv, convert, run_underlying hs, run_underlying u1, Conv.intToInt]) (mk_int _ _) hd (hk _ hke)
    · rename_i heq _
      cases heq
    · rename_i heq _
      cases heq
    · cases hp
theorem run_copy {dT sT ty elem : Nat} (hu : P.underlying dT = some (.slice elem)) (he : TyOk P E elem) {base A : Option Addr} {dLen dCap sLen sCap : Nat} {cs : List Value}
    (hf : (Builtin.firstCells (E.ty elem).sh.n (Nat.min sLen dLen) (.slice A sLen sCap)).run P w = .ok cs.toArray w) (hst : ∀ b, base = some b -> (storeCells b cs).run P w = .ok () w') (hnone : base = none -> w' = w) :
    (Builtin.copy_ #[dT, sT] ty #[.slice base dLen dCap, .slice A sLen sCap]).run P w = .ok (.int .i64 ((Nat.min sLen dLen : Nat) : Int)) w' := by
  cases base with
  | none =>
    have := hnone rfl
    subst this
    simp [Builtin.copy_, run_underlying hu, Builtin.lenOf, he.size, hf, goInt]
  | some b =>
    have := hst b rfl
    simp [Builtin.copy_, run_underlying hu, Builtin.lenOf, he.size, hf, goInt, this]
theorem ReadsAs.first {v : Value} {n : Nat} {news : List Value} (h : ReadsAs w v n news) {size m : Nat} (hm : m <= n) (hl : news.length = n * size) : ∃ A cap, v = .slice A n cap /\ (Builtin.firstCells size m v).run P w = .ok (news.take (m * size)).toArray w := by
  obtain ⟨A, cap, rfl, h⟩ := h
  refine ⟨A, cap, rfl, ?_⟩
  have zero : n = 0 -> (Builtin.firstCells size m (.slice A n cap)).run P w = .ok (news.take (m * size)).toArray w := by
    intro h0
    have hm0 : m = 0 := by omega
    subst hm0
    cases A with
    | none => simp [Builtin.firstCells]
    | some ad => simpa using run_firstCells_some (P := P) w size 0 ad n cap [] (by simp) (fun j u hj => by simp at hj)
  rcases h with ⟨rfl, h⟩ | h | ⟨g, o, rfl, h⟩
  · exact zero h
  · exact zero h
  · refine run_firstCells_some (P := P) w size m ⟨g, o, none⟩ n cap _ ?_ (fun j u hj => ?_)
    · have : m * size <= n * size := Nat.mul_le_mul_right _ hm
      simp; omega
    · rw [add_none]
      rw [List.getElem?_take] at hj
      split at hj
      · exact h j u hj
      · cases hj
theorem copy_list {α : Type} (xs ys : List α) : ys.take xs.length ++ xs.drop ys.length = ys.take (Nat.min ys.length xs.length) ++ xs.drop (Nat.min ys.length xs.length) := by
  rcases Nat.le_total ys.length xs.length with h | h
  · have e : Nat.min ys.length xs.length = ys.length := Nat.min_eq_left h
    rw [e, List.take_of_length_le h, List.take_of_length_le (Nat.le_refl _)]
  · have e : Nat.min ys.length xs.length = xs.length := Nat.min_eq_right h
    rw [e, List.drop_of_length_le h, List.drop_of_length_le (Nat.le_refl _)]
theorem snd_copy (h : Rel c st G w (tmOf a)) (hd : ∀ d, o.dst = some d -> d < a.tmps.size /\ c.pin d = none) (hk : ∀ e, k e = some r -> After c a K (e.apply o.dst st))
    {cl : Call} (hop : o.op = .call cl) (hcl : cl.callee = .builtin .copy) (hts : ∀ t ∈ cl.argTypes.toList, TyOk P E t) (htes : ∀ t ∈ cl.argTypes.toList, ∀ e, (E.ty t).d = .slice e -> TyOk P E e)
    (hp : pre E o st = some pl) (hr : runPlan E call k pl = some r) : o.wp P a w K Q := by
  simp only [pre, hop, hcl] at hp
  split at hp
  · rename_i x y t1 t2 hxy htt
    have hxy' := arr_of hxy
    have hts' := arr_of htt
    split at hp
    · rename_i te hsl
      have ht1 := hts t1 (by rw [htt]; simp)
      have hte := htes t1 (by rw [htt]; simp) te hsl
      obtain ⟨hu1, _, _⟩ := ht1.slice hsl
      unfold preCopy at hp
      split at hp
      · rename_i k0 ep1 e lb hx hy
        split at hp
        · rename_i ep e' xs hk0
          split at hp
          · rename_i hcond
            obtain ⟨rfl, hdeep, hsz⟩ := hcond
            split at hp
            · rename_i ys hm
              cases hp
              obtain ⟨_, hke⟩ := runAlts_one hr
              have hvx : LfRel c st.us G w (.own k0 ep1 [] e') (a.eval x) := (show VRel c st.us st.vs G w (.v false [.own k0 ep1 [] e']) (a.eval x) from operand_rel h hx).1.1
              have hvy : LfRel c st.us G w lb (a.eval y) := (show VRel c st.us st.vs G w (.v false [lb]) (a.eval y) from operand_rel h hy).1.1
              have hreads := matLf_reads h (fun _ _ _ _ q => q) hm hvy hdeep
              obtain ⟨en, q1, q2⟩ := hvx
              rw [hk0] at q1
              cases q1
              obtain ⟨zs, hd'⟩ := (q2 _ _ _ rfl).2 (.inl rfl)
              have hu := h.unit _ _ _ _ hk0
              have hvu : a.eval x = G.uv k0 := by
                generalize G.uv k0 = u at hd'
                cases hd'
                rfl
              have hnl : ((ys.flatMap (flat e')).map valOf).length = ys.length * (E.ty te).sh.n := by rw [List.length_map, flatMap_length, hsz]
              obtain ⟨A, cap, hvy2, hfirst⟩ := hreads.first (P := P) (size := (E.ty te).sh.n) (m := Nat.min ys.length xs.length) (Nat.min_le_left _ _) hnl
              rw [hvy2] at hfirst
              have hnews : ((ys.flatMap (flat e')).map valOf).take (Nat.min ys.length xs.length * (E.ty te).sh.n) = ((ys.take (Nat.min ys.length xs.length)).flatMap (flat e')).map valOf := by
                rw [flatMap_take, hsz, List.map_take]
              have hlist := copy_list xs ys
              have hcl2 : (Nat.min ys.length xs.length : Nat) = min ys.length xs.length := rfl
              have finish : ∀ w' F', (Builtin.copy_ #[t1, t2] o.type #[a.eval x, a.eval y]).run P w = .ok (.int .i64 ((Nat.min ys.length xs.length : Nat) : Int)) w' -> KeptW (G.uf k0) (fun _ _ => False) w w' -> OwnL w' [.ext e' (ys.take xs.length ++ xs.drop ys.length)] [G.uv k0] F' -> (∀ b, F' b -> G.uf k0 b) -> o.wp P a w K Q := by
                intro w' F' r1 r2 r3 r4
                obtain ⟨G', g1, g2, hrel, _, _⟩ := h.swapUnit hk0 (Given.zero G ((k0, .gone) :: st.us)) r2 (fun b _ hb => .inl hb) r3 (fun b hb => .inl (r4 b hb))
                exact wp_done (e := ⟨.v false [.int .i64 ((min ys.length xs.length : Nat) : Int)], [], [(k0, .own (ep + 1) e' (ys.take xs.length ++ xs.drop ys.length))]⟩) (by simp only [execOp, hop, resolve, hcl, invoke, builtin, hxy', hts', Sem.run_bind, Sem.run_pure, Result.andThen_ok, List.map_toArray, List.map_cons, List.map_nil, r1]) hrel (mk_int _ _) hd (hk _ hke)
              rw [hvu, hvy2] at finish
              generalize hgu : G.uv k0 = u at hu finish
              generalize hfu : G.uf k0 = Fu at hu finish
              cases hu with
              | nl h0 =>
                refine finish w (fun _ => False) ?_ (.refl _ _ _) ?_ (fun _ q => q.elim)
                · exact run_copy hu1 hte hfirst (fun b hb => by cases hb) (fun _ => rfl)
                · simp only [List.length_nil, List.take_zero, List.drop_nil, List.append_nil]
                  exact .nl .nil
              | sl h1 h2 h3 h4 h5 h6 h7 h8 h9 h10 h11 =>
                rename_i g o' n cap' cur et fr F1 F2
                subst h1
                have hvals := plain_vals h7 (deep_flatMap _ _ hdeep)
                have hn1 : xs.length * e'.n <= cap' * e'.n := Nat.mul_le_mul_right _ h2
                have hn2 : Nat.min ys.length xs.length * e'.n <= xs.length * e'.n := Nat.mul_le_mul_right _ (Nat.min_le_right _ _)
                have hcl3 : (((ys.take (Nat.min ys.length xs.length)).flatMap (flat e')).map valOf).length = Nat.min ys.length xs.length * e'.n := by
                  rw [List.length_map, flatMap_length, List.length_take, Nat.min_eq_left (Nat.min_le_left _ _)]
                have hl7 : ((cur.toList.drop o').take (xs.length * e'.n)).length = xs.length * e'.n := by rw [h7.length, flatMap_length]
                obtain ⟨cur', z1, z2, z3, z4⟩ := setCells_obj g (((ys.take (Nat.min ys.length xs.length)).flatMap (flat e')).map valOf) o' w cur et fr h5
                have hst := run_storeCells_cells (P := P) g o' (((ys.take (Nat.min ys.length xs.length)).flatMap (flat e')).map valOf) 0 w (fun j hj => by
                    have : cellAt w g (o' + j) = cur[o' + j]? := cellAt_of h5
                    show (cellAt w g (o' + 0 + j)).isSome = true
                    rw [Nat.add_zero, this, Array.getElem?_eq_getElem (by omega)]
                    rfl) (fun j hj => by
                    unfold World.frozen?
                    rw [h5]
                    have := h6 (o' + 0 + j) (by omega)
                    simp only [Bool.and_eq_false_imp, decide_eq_true_eq, decide_eq_false_iff_not]
                    exact fun p q => this ⟨p, q⟩) (isScalar_one _ (deep_flatMap _ _ hdeep))
                refine finish (w.setCells g o' (((ys.take (Nat.min ys.length xs.length)).flatMap (flat e')).map valOf)) (fun b => b = g \/ False \/ F2 b) ?_ ?_ ?_ ?_
                · refine run_copy hu1 hte hfirst (fun b hb => ?_) (fun hb => by cases hb)
                  cases hb
                  rw [hnews]
                  simpa using hst
                · have := setCells_keptF w g o' (((ys.take (Nat.min ys.length xs.length)).flatMap (flat e')).map valOf)
                  exact ⟨this.os, this.tape, this.output, this.size, fun b hb hnf => this.block b hb (fun e => hnf (.inl e))⟩
                · rw [hlist]
                  have hlenn : (ys.take (Nat.min ys.length xs.length) ++ xs.drop (Nat.min ys.length xs.length)).length = xs.length := by
                    have : Nat.min ys.length xs.length <= xs.length := Nat.min_le_right _ _
                    have : Nat.min ys.length xs.length <= ys.length := Nat.min_le_left _ _
                    simp only [List.length_append, List.length_take, List.length_drop]
                    omega
                  refine .sl hlenn h2 h3 (by omega) z1 (fun j hj => h6 j (by omega)) (F1 := fun _ => False) ?_ (fun q => q) (h9.frame fun b hb => setCells_other _ _ _ _ _ (fun e => h10 (e ▸ hb))) h10 (fun _ q => q.elim)
                  have : (cur'.toList.drop o').take (xs.length * e'.n) = ((ys.take (Nat.min ys.length xs.length) ++ xs.drop (Nat.min ys.length xs.length)).flatMap (flat e')).map valOf := by
                    rw [List.flatMap_append, List.map_append]
                    apply List.ext_getElem?
                    intro j
                    rw [List.getElem?_take]
                    by_cases hj : j < Nat.min ys.length xs.length * e'.n
                    · rw [if_pos (by omega), List.getElem?_drop, List.getElem?_append_left (by omega)]
                      simp only [Array.getElem?_toList]
                      exact z4 (by omega) j (by omega)
                    · rw [List.getElem?_append_right (by omega), hcl3, flatMap_drop, List.map_drop, <- hvals, List.getElem?_drop, List.getElem?_drop, show Nat.min ys.length xs.length * e'.n + (j - Nat.min ys.length xs.length * e'.n) = j by omega, List.getElem?_take]
                      split
                      · rw [List.getElem?_drop]
                        simp only [Array.getElem?_toList]
                        exact z3 _ (by omega)
                      · rfl
                  rw [this]
                  exact plain_own (deep_flatMap _ _ hdeep)
                · rintro b (q | q | q)
                  · exact .inl q
                  · exact q.elim
                  · exact .inr (.inr q)
            · cases hp
          · cases hp
        · cases hp
      · cases hp
    · cases hp
  · cases hp
end
end Go.Proofs.YtaflceohlijekaaGreat.Ev
namespace Go.Proofs.YtaflceohlijekaaGreat.Ev
def ArgRel (c : Cx) : (p : Par) -> p.sh.T -> Value -> Prop
  | .val true s, x, v => ∃ cs : List Value, v = .agg cs.toArray /\ RdL c.w0 c.ok (flat s x) cs
  | .val false s, x, v => RdL c.w0 c.ok (flat s x) [v]
  | .ro s, x, v => ∃ g o, ∃ inner : List Value, v = .pointer (some ⟨g, o, none⟩) /\ inner.length = s.n /\ (∀ j u, inner[j]? = some u -> cellAt c.w0 g (o + j) = some u /\ c.ok g (o + j)) /\ RdL c.w0 c.ok (flat s x) inner
  | .mut s, x, v => ∃ g o, ∃ inner : List Value, ∃ F, v = .pointer (some ⟨g, o, none⟩) /\ g < c.w0.heap.size /\ (∀ j u, inner[j]? = some u -> cellAt c.w0 g (o + j) = some u) /\ (∀ j, j < s.n -> c.w0.frozen? ⟨g, o + j, none⟩ = false) /\
      OwnL c.w0 (flat s x) inner F /\ (∀ b, F b -> c.F0 b) /\ (∀ j, j < s.n -> c.C0 g (o + j)) /\ ¬ F g
  | .muts e, x, v => ∃ F, OwnL c.w0 [.ext e x] [v] F /\ ∀ b, F b -> c.F0 b
  | .fld s o e, x, v => ∃ g q hv F, ∃ inner : List Value, v = .pointer (some ⟨g, q, none⟩) /\ inner.length = s.n /\ (∀ j u, inner[j]? = some u -> cellAt c.w0 g (q + j) = some u /\ c.ok g (q + j) /\ u.oneCell' = true) /\ inner[o]? = some hv /\ OwnL c.w0 [.ext e x] [hv] F /\ ∀ b, F b -> c.F0 b
def ArgsRel (c : Cx) : (ps : List Par) -> (prod (shsOf ps)).T -> List Value -> Prop
  | [], _, vs => vs = []
  | [p], x, vs => ∃ v, vs = [v] /\ ArgRel c p x v
  | p :: q :: t, x, vs => ∃ v vt, vs = v :: vt /\ ArgRel c p x.1 v /\ ArgsRel c (q :: t) x.2 vt
def OutRel (w' : World) : List Par -> List Value -> List Value -> Prop
  | [], _, cs => cs = []
  | .mut s :: ps, v :: vs, cs => ∃ c1 c2, cs = c1 ++ c2 /\ c1.length = s.n /\ (∃ g o, v = .pointer (some ⟨g, o, none⟩) /\ ∀ j u, c1[j]? = some u -> cellAt w' g (o + j) = some u) /\ OutRel w' ps vs c2
  | .muts _ :: ps, v :: vs, cs => ∃ c2, cs = v :: c2 /\ OutRel w' ps vs c2
  | .fld _ o _ :: ps, v :: vs, cs => ∃ hv c2, cs = hv :: c2 /\ (∃ g q, v = .pointer (some ⟨g, q, none⟩) /\ cellAt w' g (q + o) = some hv) /\ OutRel w' ps vs c2
  | .val _ _ :: ps, _ :: vs, cs => OutRel w' ps vs cs
  | .ro _ :: ps, _ :: vs, cs => OutRel w' ps vs cs
  | _ :: _, [], _ => False
def OneCells (g : Bool) (v : Value) (cs : List Value) : Prop := match g with | true => v = .agg cs.toArray | false => cs = [v]
def TupCells : List (Bool × Sh) -> List Value -> List Value -> Prop
  | [], q, cs => q = [] /\ cs = []
  | (g, s) :: t, q, cs => ∃ v q', ∃ c1 c2 : List Value, q = v :: q' /\ cs = c1 ++ c2 /\ c1.length = s.n /\ OneCells g v c1 /\ TupCells t q' c2
def ValRel (rs : List (Bool × Sh)) (v : Value) (cs : List Value) : Prop :=
  match rs with
  | [(g, _)] => OneCells g v cs
  | rs => ∃ q : List Value, v = .tuple q.toArray /\ TupCells rs q cs
def Post (E : Env) (c : Cx) (f : Nat) (args : List Value) (r : (E.sig f).R.T) : Ending -> World -> Prop
  | .returned v, w' => ∃ rc oc F', KeptW c.F0 c.C0 c.w0 w' /\ ValRel (E.sig f).rs v rc /\ rc.length = nRes (E.sig f).rs /\ OutRel w' (E.sig f).ps args oc /\ OwnL w' (flat (E.sig f).R r) (rc ++ oc) F' /\ ∀ b, F' b -> c.F0 b \/ c.w0.heap.size <= b
  | _, _ => False
def FnSpec (P : Program) (E : Env) (f : Nat) (x : (E.sig f).A.T) (r : (E.sig f).R.T) : Prop :=
  ∀ (c : Cx) (args : List Value), ArgsRel c (E.sig f).ps x args -> Calls P f args.toArray c.w0 (Post E c f args r)
structure Owned (w : World) (nu : List (Nat × UE)) (uv : Nat -> Value) (uf : Nat -> Nat -> Prop) (F : Nat -> Prop) (k : Nat) : Prop where
  own : ∀ i en, getA nu i = some en -> ∃ e xs, en = .own 0 e xs /\ OwnL w [.ext e xs] [uv i] (uf i) /\ ∀ b, uf i b -> F b
  dj : ∀ i j, getA nu i ≠ none -> getA nu j ≠ none -> i ≠ j -> Dj (uf i) (uf j)
  ge : ∀ i, getA nu i ≠ none -> k <= i
theorem ownify_own {w : World} : ∀ (ls : List Lf) (vs : List Value) (F : Nat -> Prop) (k : Nat), OwnL w ls vs F ->
    ∃ uv uf, Owned w (ownify ls k).2 uv uf F k /\ ∀ (c : Cx) us (G : Gh), (∀ i en, getA (ownify ls k).2 i = some en -> getA us i = some en) -> (∀ i, getA (ownify ls k).2 i ≠ none -> G.uv i = uv i) -> LsRel c us G w (ownify ls k).1 vs
  | [], vs, F, k, h => by
    cases h
    exact ⟨fun _ => .bool true, fun _ _ => False, ⟨fun _ _ h => (by cases h), fun _ _ h => absurd rfl h, fun _ h => absurd rfl h⟩, fun _ _ _ _ _ => trivial⟩
  | .int kk x :: t, vs, F, k, h => by
    cases h with
    | int h =>
      obtain ⟨uv, uf, ho, hr⟩ := ownify_own t _ F k h
      exact ⟨uv, uf, ho, fun c us G h1 h2 => ⟨⟨rfl, rfl⟩, hr c us G h1 h2⟩⟩
  | .bool x :: t, vs, F, k, h => by
    cases h with
    | bool h =>
      obtain ⟨uv, uf, ho, hr⟩ := ownify_own t _ F k h
      exact ⟨uv, uf, ho, fun c us G h1 h2 => ⟨⟨rfl, rfl⟩, hr c us G h1 h2⟩⟩
  | .str x :: t, vs, F, k, h => by
    cases h with
    | str h =>
      obtain ⟨uv, uf, ho, hr⟩ := ownify_own t _ F k h
      exact ⟨uv, uf, ho, fun c us G h1 h2 => ⟨⟨rfl, rfl⟩, hr c us G h1 h2⟩⟩
  | .ext e xs :: t, vs, F, k, h => by
    obtain ⟨v, vt, F1, F2, rfl, hv1, hvt, hdj, hF⟩ : ∃ v vt F1 F2, vs = v :: vt /\ OwnL w [.ext e xs] [v] F1 /\ OwnL w t vt F2 /\ Dj F1 F2 /\ ∀ b, F b ↔ F1 b \/ F2 b := by
      obtain ⟨v1, v2, F1, F2, rfl, h1, h2, h3, h4⟩ := OwnL.split (l1 := [.ext e xs]) (l2 := t) h
      have := h1.length
      match v1, this, h1 with
      | [v], _, h1 => exact ⟨v, v2, F1, F2, rfl, h1, h2, h3, h4⟩
    obtain ⟨uv, uf, ho, hr⟩ := ownify_own t vt F2 (k + 1) hvt
    have hk : getA (ownify t (k + 1)).2 k = none := by
      cases hg : getA (ownify t (k + 1)).2 k with
      | none => rfl
      | some en =>
        have := ho.ge k (by rw [hg]; exact fun q => by cases q)
        omega
    refine ⟨fun i => if i = k then v else uv i, fun i => if i = k then F1 else uf i, ⟨fun i en hi => ?_, fun i j hi hj hne => ?_, fun i hi => ?_⟩, fun c us G h1 h2 => ?_⟩
    · simp only [ownify, getA_cons] at hi
      split at hi
      · rename_i hki
        cases hi
        refine ⟨e, xs, rfl, ?_, fun b hb => ?_⟩
        · simp only [hki.symm, if_true]
          exact hv1
        · simp only [hki.symm, if_true] at hb
          exact (hF b).2 (.inl hb)
      · rename_i hki
        obtain ⟨e', xs', g1, g2, g3⟩ := ho.own i en hi
        have hik : ¬ i = k := fun e => hki e.symm
        simp only [hik, if_false]
        exact ⟨e', xs', g1, g2, fun b hb => (hF b).2 (.inr (g3 b hb))⟩
    · have sub : ∀ i, i ≠ k -> getA (ownify (Lf.ext e xs :: t) k).2 i ≠ none -> getA (ownify t (k + 1)).2 i ≠ none /\ ∀ b, uf i b -> F2 b := by
        intro i hik hi
        simp only [ownify, getA_cons] at hi
        rw [if_neg (fun e => hik e.symm)] at hi
        refine ⟨hi, fun b hb => ?_⟩
        cases hg : getA (ownify t (k + 1)).2 i with
        | none => exact absurd hg hi
        | some en =>
          obtain ⟨_, _, _, _, g3⟩ := ho.own i en hg
          exact g3 b hb
      intro b hb1 hb2
      by_cases hik : i = k
      · have hjk : j ≠ k := fun e => hne (hik.trans e.symm)
        simp only [hik, if_true] at hb1
        simp only [hjk, if_false] at hb2
        exact hdj b hb1 ((sub j hjk hj).2 b hb2)
      · simp only [hik, if_false] at hb1
        by_cases hjk : j = k
        · simp only [hjk, if_true] at hb2
          exact hdj b hb2 ((sub i hik hi).2 b hb1)
        · simp only [hjk, if_false] at hb2
          exact ho.dj i j (sub i hik hi).1 (sub j hjk hj).1 hne b hb1 hb2
    · simp only [ownify, getA_cons] at hi
      split at hi
      · omega
      · have := ho.ge i hi
        omega
    · have hku := h1 k (.own 0 e xs) (by simp only [ownify, getA_cons, if_true])
      have hkv := h2 k (by simp only [ownify, getA_cons, if_true]; exact fun q => by cases q)
      simp only [if_true] at hkv
      refine ⟨⟨⟨_, hku, fun ep1 e1 xs1 he => ?_⟩, own_one hv1⟩, hr c us G (fun i en hi => h1 i en ?_) (fun i hi => ?_)⟩
      · cases he
        exact ⟨fun q => absurd rfl q, fun _ => ⟨xs, hkv ▸ .nil⟩⟩
      · simp only [ownify, getA_cons]
        rw [if_neg (fun e => by rw [<- e, hk] at hi; cases hi)]
        exact hi
      · have hik : i ≠ k := fun e => hi (e ▸ hk)
        have := h2 i (by simp only [ownify, getA_cons]; rw [if_neg (fun e => hik e.symm)]; exact hi)
        simpa only [hik, if_false] using this
  | .own .. :: t, vs, F, k, h => by cases h
  | .sub .. :: t, vs, F, k, h => by cases h
  | .nl _ :: t, vs, F, k, h => by cases h
  | .dead :: t, vs, F, k, h => by cases h
end Go.Proofs.YtaflceohlijekaaGreat.Ev
namespace Go.Proofs.YtaflceohlijekaaGreat.Ev
theorem castL_self (e : Sh) (xs : List e.T) : castL e xs e = some xs := by simp [castL]
def un1 {α : Type} (f : Lf -> Option α) : List Lf -> Option (α × List Lf)
  | [] => none
  | h :: t => match f h with | some x => some (x, t) | none => none
theorem unflat_int (us : List (Nat × UE)) (k : IntKind) (l : List Lf) : unflat us (.int k) l = un1 (fun a => matLf us a (.int k)) l := by
  cases l with
  | nil => rfl
  | cons h t => simp only [unflat, un1]; cases matLf us h (.int k) <;> rfl
theorem unflat_bool (us : List (Nat × UE)) (l : List Lf) : unflat us .bool l = un1 (fun a => matLf us a .bool) l := by
  cases l with
  | nil => rfl
  | cons h t => simp only [unflat, un1]; cases matLf us h .bool <;> rfl
theorem unflat_str (us : List (Nat × UE)) (l : List Lf) : unflat us .str l = un1 (fun a => matLf us a .str) l := by
  cases l with
  | nil => rfl
  | cons h t => simp only [unflat, un1]; cases matLf us h .str <;> rfl
theorem unflat_sl (us : List (Nat × UE)) (e : Sh) (l : List Lf) : unflat us (.sl e) l = un1 (fun a => matLf us a (.sl e)) l := by
  cases l with
  | nil => rfl
  | cons h t => simp only [unflat, un1]; cases matLf us h (.sl e) <;> rfl
theorem unflat_flat (us : List (Nat × UE)) : ∀ (s : Sh) (x : s.T) (rest : List Lf), unflat us s (flat s x ++ rest) = some (x, rest)
  | .int _, x, rest => by simp [flat, unflat, matLf]
  | .bool, x, rest => by simp [flat, unflat, matLf]
  | .str, x, rest => by simp [flat, unflat, matLf]
  | .unit, x, rest => by simp [flat, unflat]
  | .sl e, x, rest => by simp [flat, unflat, matLf, castL_self]
  | .pair a b, x, rest => by
    simp only [flat, unflat, List.append_assoc]
    rw [unflat_flat us a x.1]
    simp only
    rw [unflat_flat us b x.2]
theorem unflat_pre (us : List (Nat × UE)) : ∀ (s : Sh) (l r l' : List Lf) (x : s.T), s.n <= l.length -> unflat us s (l ++ r) = some (x, l') -> ∃ l1, l' = l1 ++ r /\ unflat us s l = some (x, l1) /\ l1.length + s.n = l.length := by
  have one : ∀ (s : Sh) (l r l' : List Lf) (x : s.T) (f : Lf -> Option s.T), s.n = 1 -> s.n <= l.length -> un1 f (l ++ r) = some (x, l') ->
      ∃ l1, l' = l1 ++ r /\ un1 f l = some (x, l1) /\ l1.length + s.n = l.length := by
    intro s l r l' x f hn hl h
    cases l with
    | nil => simp [hn] at hl
    | cons a t =>
      simp only [List.cons_append, un1] at h ⊢
      cases hf : f a with
      | none => rw [hf] at h; cases h
      | some y =>
        rw [hf] at h
        simp only [Option.some.injEq, Prod.mk.injEq] at h
        obtain ⟨rfl, rfl⟩ := h
        exact ⟨t, rfl, rfl, by simp [hn]⟩
  intro s
  induction s with
  | unit => intro l r l' x hl h; simp only [unflat, Option.some.injEq, Prod.mk.injEq] at h; obtain ⟨_, rfl⟩ := h; exact ⟨l, rfl, rfl, rfl⟩
  | pair a b iha ihb =>
    intro l r l' x hl h
    simp only [unflat] at h ⊢
    simp only [Sh.n] at hl ⊢
    split at h
    · rename_i y l1 h1
      obtain ⟨l2, rfl, h2, h3⟩ := iha l r l1 y (by omega) h1
      split at h
      · rename_i z l3 h4
        cases h
        obtain ⟨l5, rfl, h6, h7⟩ := ihb l2 r _ z (by omega) h4
        refine ⟨l5, rfl, ?_, by omega⟩
        rw [h2]
        simp only
        rw [h6]
      · cases h
    · cases h
  | int k =>
    intro l r l' x hl h
    rw [unflat_int] at h ⊢
    exact one _ l r l' x (fun a => matLf us a (.int k)) rfl hl h
  | bool =>
    intro l r l' x hl h
    rw [unflat_bool] at h ⊢
    exact one _ l r l' x (fun a => matLf us a .bool) rfl hl h
  | str =>
    intro l r l' x hl h
    rw [unflat_str] at h ⊢
    exact one _ l r l' x (fun a => matLf us a .str) rfl hl h
  | sl e =>
    intro l r l' x hl h
    rw [unflat_sl] at h ⊢
    exact one _ l r l' x (fun a => matLf us a (.sl e)) rfl hl h
section
variable {P : Program} {E : Env} {c : Cx} {st : St} {G G' : Gh} {w w' : World} {a : Act} {o : Oper} {K : Act -> World -> Prop} {Q : Exit -> Act -> World -> Prop} {tm : Nat -> Value}
variable {R : Type} {call : E.Call} {k : Eff -> Option R} {r : R} {pl : Plan E}
structure OkIn (c c1 : Cx) (st : St) (G : Gh) (w : World) : Prop where
  w0 : c1.w0 = w
  ext : ∀ b o, c.ok b o -> c1.ok b o
  unit : ∀ k ep e xs, getA st.us k = some (.own ep e xs) -> ∀ b, G.uf k b -> ∀ o, c1.ok b o
  var : ∀ r l, getA st.vs r = some l -> ∀ j, j < l.length -> c1.ok (G.va r).1 ((G.va r).2 + j)
theorem matLf_rd (h : Rel c st G w tm) {c1 : Cx} (hc : OkIn c c1 st G w) {l : Lf} {s : Sh} {x : s.T} {v : Value} (hm : matLf st.us l s = some x) (hv : LfRel c st.us G w l v) : RdL w c1.ok (flat s x) [v] := by
  unfold matLf at hm
  split at hm
  · split at hm
    · rename_i hk
      subst hk
      cases hm
      have : v = _ := hv
      subst this
      exact .int .nil
    · cases hm
  · cases hm
    have : v = _ := hv
    subst this
    exact .bool .nil
  · cases hm
    have : v = _ := hv
    subst this
    exact .str .nil
  · rename_i e xs e' _
    unfold castL at hm
    split at hm
    · rename_i he
      subst he
      cases hm
      have hv : RdL c.w0 c.ok [.ext _ _] [v] := hv
      exact hv.mono fun b o hb => ⟨h.okCell hb, hc.ext b o hb⟩
    · cases hm
  · obtain ⟨ep0, e0, xs0, g1, g2, g3⟩ := content_own hm
    obtain ⟨en, q1, q2⟩ := hv
    rw [g1] at q1
    cases q1
    obtain ⟨zs, hd'⟩ := (q2 _ _ _ rfl).2 g2
    have := descend_shape _ _ _ _ _ _ _ g3 hd'.descend
    cases this
    obtain ⟨Fl, Fr, h3, _, h4, _⟩ := hd'.own (h.unit _ _ _ _ g1)
    exact h3.rd fun b o hb => hc.unit _ _ _ _ g1 b ((h4 b).2 (.inl hb)) o
  · split at hm
    · rename_i zs hz
      cases hm
      obtain ⟨ep0, e0, xs0, g1, g2, g3⟩ := content_own hz
      obtain ⟨en, q1, q2⟩ := hv
      rw [g1] at q1
      cases q1
      obtain ⟨zs2, v0, hd', hsub⟩ := (q2 _ _ _ rfl).2 g2
      have := descend_shape _ _ _ _ _ _ _ g3 hd'.descend
      cases this
      obtain ⟨Fl, Fr, h3, _, h4, _⟩ := hd'.own (h.unit _ _ _ _ g1)
      obtain ⟨F', h5, h6⟩ := h3.sub hsub
      exact h5.rd fun b o hb => hc.unit _ _ _ _ g1 b ((h4 b).2 (.inl (h6 b hb))) o
    · cases hm
  · cases hm
    have : v = _ := hv
    subst this
    exact .sl0 .nil
  · cases hm
theorem unflat_rd (h : Rel c st G w tm) {c1 : Cx} (hc : OkIn c c1 st G w) : ∀ (s : Sh) (ls : List Lf) (x : s.T) (rest : List Lf) (vs : List Value), unflat st.us s ls = some (x, rest) -> LsRel c st.us G w ls vs ->
    ∃ v1 v2, vs = v1 ++ v2 /\ LsRel c st.us G w rest v2 /\ RdL w c1.ok (flat s x) v1 := by
  have one : ∀ (s : Sh) (ls : List Lf) (x : s.T) (rest : List Lf) (vs : List Value), un1 (fun a => matLf st.us a s) ls = some (x, rest) -> LsRel c st.us G w ls vs ->
      ∃ v1 v2, vs = v1 ++ v2 /\ LsRel c st.us G w rest v2 /\ RdL w c1.ok (flat s x) v1 := by
    intro s ls x rest vs hu hv
    cases ls with
    | nil => cases hu
    | cons l t =>
      cases vs with
      | nil => exact hv.elim
      | cons v vt =>
        simp only [un1] at hu
        split at hu
        · rename_i y hy
          cases hu
          exact ⟨[v], vt, rfl, hv.2, matLf_rd h hc hy hv.1.1⟩
        · cases hu
  intro s
  induction s with
  | unit => intro ls x rest vs hu hv; simp only [unflat, Option.some.injEq, Prod.mk.injEq] at hu; obtain ⟨_, rfl⟩ := hu; exact ⟨[], vs, rfl, hv, .nil⟩
  | pair a b iha ihb =>
    intro ls x rest vs hu hv
    simp only [unflat] at hu
    split at hu
    · rename_i y l1 h1
      obtain ⟨v1, v2, rfl, k1, k2⟩ := iha _ _ _ _ h1 hv
      split at hu
      · rename_i z l2 h2
        cases hu
        obtain ⟨v3, v4, rfl, k3, k4⟩ := ihb _ _ _ _ h2 k1
        exact ⟨v1 ++ v3, v4, by simp, k3, k2.append k4⟩
      · cases hu
    · cases hu
  | int k =>
    intro ls x rest vs hu hv
    rw [unflat_int] at hu
    exact one _ ls x rest vs hu hv
  | bool =>
    intro ls x rest vs hu hv
    rw [unflat_bool] at hu
    exact one _ ls x rest vs hu hv
  | str =>
    intro ls x rest vs hu hv
    rw [unflat_str] at hu
    exact one _ ls x rest vs hu hv
  | sl e =>
    intro ls x rest vs hu hv
    rw [unflat_sl] at hu
    exact one _ ls x rest vs hu hv
theorem readP_ok (h : Rel c st G w tm) {c1 : Cx} (hc : OkIn c c1 st G w) {q : Ptr} {v : Value} (hv : PtrRel c st.us st.vs G w q v) {n : Nat} {ls : List Lf} (hr : Ev.readP st n q = some ls) {g o : Nat} (hg : v = .pointer (some ⟨g, o, none⟩)) :
    ∀ j, j < n -> c1.ok g (o + j) := by
  intro j hj
  cases q with
  | var r off =>
    obtain ⟨l, h1, rfl⟩ := hv
    cases hg
    simp only [Ev.readP, h1] at hr
    split at hr
    · rename_i hle
      rw [Nat.add_assoc]
      exact hc.var r l h1 _ (by omega)
    · cases hr
  | cells l off =>
    obtain ⟨g', o', inner, rfl, h1, h2⟩ := hv
    cases hg
    simp only [Ev.readP] at hr
    split at hr
    · rename_i hle
      have hlen := h1.length
      have hlt : off + j < inner.length := by omega
      have := (h2 (off + j) _ (List.getElem?_eq_getElem hlt)).2
      rw [Nat.add_assoc]
      exact hc.ext _ _ this
    · cases hr
  | ext e x off =>
    obtain ⟨g', o', inner, rfl, h1, h2, h3⟩ := hv
    cases hg
    simp only [Ev.readP] at hr
    split at hr
    · rename_i hle
      have hlt : off + j < inner.length := by omega
      have := (h2 (off + j) _ (List.getElem?_eq_getElem hlt)).2
      rw [Nat.add_assoc]
      exact hc.ext _ _ this
    · cases hr
  | elem k ep p e i off =>
    simp only [Ev.readP] at hr
    split at hr
    · rename_i xs hcont
      obtain ⟨ep0, e0, xs0, g', o', cap, hk, hp, hd, hi, rfl⟩ := h.elemAt hv hcont
      cases hg
      obtain ⟨Fl, Fr, h3, _, h4, _⟩ := hd.own (h.unit k _ _ _ hk)
      obtain ⟨g2, o2, cap2, cur, et, fr, F1, hv2, _, _, _, _, _, _, _, h5⟩ := h3.open_sl (by omega)
      cases hv2
      exact hc.unit k _ _ _ hk _ ((h4 _).2 (.inl ((h5 _).2 (.inl rfl)))) _
    · cases hr
def AVs (c : Cx) (st : St) (G : Gh) (w : World) : List (Option AV) -> List Value -> Prop
  | [], vs => vs = []
  | a :: as, vs => ∃ v vt, vs = v :: vt /\ (∀ x, a = some x -> VRel c st.us st.vs G w x v) /\ AVs c st G w as vt
theorem args_val (h : Rel c st G w tm) {c1 : Cx} (hc : OkIn c c1 st G w) {g : Bool} {s : Sh} {ls : List Lf} {v : Value} {x : s.T} {rest : List Lf} (hv : VLs c st.us G w g ls v) (hl : ls.length = s.n) (hu : unflat st.us s ls = some (x, rest)) : ArgRel c1 (.val g s) x v := by
  cases g with
  | true =>
    obtain ⟨cs, rfl, hls⟩ := hv
    obtain ⟨v1, v2, rfl, k1, k2⟩ := unflat_rd h hc s ls x rest cs hu hls
    have : v2 = [] := by
      have e1 := hls.length
      have e2 := k2.length
      rw [flat_length] at e2
      simp only [List.length_append] at e1
      exact List.eq_nil_of_length_eq_zero (by omega)
    subst this
    refine ⟨v1, by simp, ?_⟩
    rw [hc.w0]
    exact k2
  | false =>
    obtain ⟨v1, v2, hvv, k1, k2⟩ := unflat_rd h hc s ls x rest [v] hu hv
    have : v2 = [] := by
      have e1 := LsRel.length hv
      have e2 := k2.length
      rw [flat_length] at e2
      have e3 := congrArg List.length hvv
      simp only [List.length_append] at e1 e3
      exact List.eq_nil_of_length_eq_zero (by omega)
    subst this
    rw [List.append_nil] at hvv
    subst hvv
    show RdL c1.w0 c1.ok (flat s x) [v]
    rw [hc.w0]
    exact k2
theorem args_ro (h : Rel c st G w tm) {c1 : Cx} (hc : OkIn c c1 st G w) {s : Sh} {ls : List Lf} {v : Value} {x : s.T} {rest : List Lf} {q : Ptr} (hv : PtrRel c st.us st.vs G w q v) (hr : Ev.readP st s.n q = some ls) (hl : ls.length = s.n) (hu : unflat st.us s ls = some (x, rest)) : ArgRel c1 (.ro s) x v := by
  obtain ⟨g, o, cs, hg, hls, hcs, hcell⟩ := h.readP hv hr
  have hok := readP_ok h hc hv hr hg
  obtain ⟨v1, v2, rfl, k1, k2⟩ := unflat_rd h hc s ls x rest cs hu hls
  have : v2 = [] := by
    have e2 := k2.length
    rw [flat_length] at e2
    simp only [List.length_append] at hcs
    exact List.eq_nil_of_length_eq_zero (by omega)
  subst this
  rw [List.append_nil] at hcell hcs
  refine ⟨g, o, v1, hg, hcs, fun j u hj => ⟨?_, ?_⟩, ?_⟩
  · rw [hc.w0]; exact hcell j u hj
  · refine hok j ?_
    rcases Nat.lt_or_ge j v1.length with p | p
    · omega
    · simp [List.getElem?_eq_none p] at hj
  · rw [hc.w0]; exact k2
theorem args_rel (h : Rel c st G w tm) {c1 : Cx} (hc : OkIn c c1 st G w) {lls : List Lf} : ∀ (ps : List Par) (as : List (Option AV)) (vs : List Value) (ls : List Lf) (x : (prod (shsOf ps)).T), AVs c st G w as vs -> callArgs st lls ps as = some ls -> unflat st.us (prod (shsOf ps)) ls = some (x, []) ->
    (∀ p ∈ ps, p.isMut = true -> ∀ (i : Nat) (v : Value), ps[i]? = some p -> vs[i]? = some v -> ∃ y : p.sh.T, lls = flat p.sh y /\ ArgRel c1 p y v) -> ArgsRel c1 ps x vs := by
  have step : ∀ (p : Par) (ps : List Par) (as : List (Option AV)) (vs : List Value) (ls : List Lf), AVs c st G w as vs -> callArgs st lls (p :: ps) as = some ls -> (p.isMut = true -> ∀ (v : Value), vs[0]? = some v -> ∃ y : p.sh.T, lls = flat p.sh y /\ ArgRel c1 p y v) ->
      ∃ v vt as' l1 l2, vs = v :: vt /\ AVs c st G w as' vt /\ callArgs st lls ps as' = some l2 /\ ls = l1 ++ l2 /\ l1.length = p.sh.n /\ ∀ y l3, unflat st.us p.sh l1 = some (y, l3) -> ArgRel c1 p y v := by
    intro p ps as vs ls hav hca hmut
    cases as with
    | nil => cases p <;> simp [callArgs] at hca
    | cons a as =>
      obtain ⟨v, vt, rfl, hv, hvt⟩ := hav
      cases p with
      | val g s =>
        cases a with
        | none => simp [callArgs] at hca
        | some av =>
          cases av with
          | v g' l0 =>
            simp only [callArgs] at hca
            split at hca
            · rename_i hcond
              obtain ⟨rfl, hl⟩ := hcond
              split at hca
              · rename_i r2 hr2
                cases hca
                exact ⟨v, vt, as, l0, r2, rfl, hvt, hr2, rfl, hl, fun y l3 hy => args_val h hc (hv _ rfl) hl hy⟩
              · cases hca
            · cases hca
          | _ => simp [callArgs] at hca
      | ro s =>
        cases a with
        | none => simp [callArgs] at hca
        | some av =>
          cases av with
          | ptr q =>
            simp only [callArgs] at hca
            split at hca
            · rename_i l0 hr0
              split at hca
              · rename_i hl
                split at hca
                · rename_i r2 hr2
                  cases hca
                  exact ⟨v, vt, as, l0, r2, rfl, hvt, hr2, rfl, hl, fun y l3 hy => args_ro h hc (hv _ rfl) hr0 hl hy⟩
                · cases hca
              · cases hca
            · cases hca
          | _ => simp [callArgs] at hca
      | «mut» s =>
        simp only [callArgs] at hca
        split at hca
        · rename_i r2 hr2
          cases hca
          obtain ⟨y, rfl, hy⟩ := hmut rfl v rfl
          exact ⟨v, vt, as, _, r2, rfl, hvt, hr2, rfl, flat_length _ _, fun y' l3 hy' => by
            have := unflat_flat st.us s y []
            rw [List.append_nil] at this
            rw [this] at hy'
            cases hy'
            exact hy⟩
        · cases hca
      | fld s o e =>
        simp only [callArgs] at hca
        split at hca
        · rename_i r2 hr2
          cases hca
          obtain ⟨y, rfl, hy⟩ := hmut rfl v rfl
          exact ⟨v, vt, as, _, r2, rfl, hvt, hr2, rfl, flat_length _ _, fun y' l3 hy' => by
            have := unflat_flat st.us (.sl e) y []
            rw [List.append_nil] at this
            rw [this] at hy'
            cases hy'
            exact hy⟩
        · cases hca
      | muts e =>
        simp only [callArgs] at hca
        split at hca
        · rename_i r2 hr2
          cases hca
          obtain ⟨y, rfl, hy⟩ := hmut rfl v rfl
          exact ⟨v, vt, as, _, r2, rfl, hvt, hr2, rfl, flat_length _ _, fun y' l3 hy' => by
            have := unflat_flat st.us (.sl e) y []
            rw [List.append_nil] at this
            rw [this] at hy'
            cases hy'
            exact hy⟩
        · cases hca
  intro ps
  induction ps with
  | nil =>
    intro as vs ls x hav hca hu hm
    cases as with
    | nil => exact hav
    | cons => simp [callArgs] at hca
  | cons p ps ih =>
    intro as vs ls x hav hca hu hm
    obtain ⟨v, vt, as', l1, l2, rfl, h1, h2, rfl, h3, h4⟩ := step p ps as vs ls hav hca (fun hp v hv => hm p (by simp) hp 0 v rfl hv)
    cases ps with
    | nil =>
      simp only [shsOf, prod] at x hu
      obtain ⟨l4, e1, e2, e3⟩ := unflat_pre st.us p.sh l1 l2 [] x (by omega) hu
      refine ⟨v, ?_, h4 x l4 e2⟩
      cases as' with
      | nil => rw [show vt = [] from h1]
      | cons => simp [callArgs] at h2
    | cons q t =>
      simp only [shsOf, prod, unflat] at x hu
      split at hu
      · rename_i y l5 hy
        obtain ⟨l4, rfl, e2, e3⟩ := unflat_pre st.us p.sh l1 l2 l5 y (by omega) hy
        have hl4 : l4 = [] := List.eq_nil_of_length_eq_zero (by omega)
        subst hl4
        split at hu
        · rename_i z l6 hz
          cases hu
          exact ⟨v, vt, rfl, h4 y [] e2, ih as' vt l2 z h1 h2 hz (fun p' hp' hmu i v' hi hv' => hm p' (List.mem_cons_of_mem _ hp') hmu (i + 1) v' (by simpa using hi) (by simpa using hv'))⟩
        · cases hu
      · cases hu
end
end Go.Proofs.YtaflceohlijekaaGreat.Ev
namespace Go.Proofs.YtaflceohlijekaaGreat.Ev
structure LockOk (st : St) (lock : List (Nat × UE)) (lockV : List (Nat × List Lf)) : Prop where
  gone : ∀ i en, getA lock i = some en -> en = .gone /\ ∃ ep e xs, getA st.us i = some (.own ep e xs)
  vars : ∀ r l, getA lockV r = some l -> l = [] /\ ∃ ls, getA st.vs r = some ls
def LockF (st : St) (G : Gh) (lock : List (Nat × UE)) (b : Nat) : Prop := ∃ k ep e xs, getA lock k = some .gone /\ getA st.us k = some (.own ep e xs) /\ G.uf k b
def LockC (st : St) (G : Gh) (lockV : List (Nat × List Lf)) (b o : Nat) : Prop := ∃ r ls j, getA lockV r = some [] /\ getA st.vs r = some ls /\ j < ls.length /\ b = (G.va r).1 /\ o = (G.va r).2 + j
section
variable {P : Program} {E : Env} {c : Cx} {st : St} {G G' : Gh} {w w' : World} {a : Act} {o : Oper} {K : Act -> World -> Prop} {Q : Exit -> Act -> World -> Prop} {tm : Nat -> Value}
variable {R : Type} {call : E.Call} {k : Eff -> Option R} {r : R} {pl : Plan E}
theorem LockOk.own {lock : List (Nat × UE)} {lockV : List (Nat × List Lf)} (hl : LockOk st lock lockV) {k ep e xs} (h : getA (lock ++ st.us) k = some (.own ep e xs)) : getA lock k = none /\ getA st.us k = some (.own ep e xs) := by
  rw [getA_append] at h
  cases hq : getA lock k with
  | none => rw [hq] at h; exact ⟨rfl, h⟩
  | some en =>
    rw [hq] at h
    simp only [Option.some.injEq] at h
    subst h
    cases (hl.gone k _ hq).1
theorem LockOk.var {lock : List (Nat × UE)} {lockV : List (Nat × List Lf)} (hl : LockOk st lock lockV) {r l} (h : getA (lockV ++ st.vs) r = some l) : (l = [] /\ ∃ ls, getA st.vs r = some ls) \/ (getA lockV r = none /\ getA st.vs r = some l) := by
  rw [getA_append] at h
  cases hq : getA lockV r with
  | none => rw [hq] at h; exact .inr ⟨rfl, h⟩
  | some l2 =>
    rw [hq] at h
    simp only [Option.some.injEq] at h
    subst h
    exact .inl (hl.vars r _ hq)
theorem Rel.lock (h : Rel c st G w tm) {lock : List (Nat × UE)} {lockV : List (Nat × List Lf)} (hl : LockOk st lock lockV) : Rel c ⟨st.sl, lockV ++ st.vs, lock ++ st.us⟩ G w tm := by
  have huc : UCompat st.us (lock ++ st.us) G G w w := by
    intro k en hen
    rw [getA_append]
    cases hq : getA lock k with
    | none => exact ⟨en, hen, fun ep' e' xs' he => ⟨ep', xs', he, rfl, Nat.le_refl _, fun _ => ⟨rfl, fun _ _ _ _ q => q⟩⟩⟩
    | some en2 => exact ⟨en2, rfl, fun ep' e' xs' he => by rw [(hl.gone k _ hq).1] at he; cases he⟩
  have hvc : VCompat st.vs (lockV ++ st.vs) G G := by
    intro r ls hr
    rw [getA_append]
    cases hq : getA lockV r with
    | none => exact ⟨ls, hr, rfl⟩
    | some l2 => exact ⟨l2, rfl, rfl⟩
  refine ⟨h.kept, fun k ep e xs hk => h.unit k _ _ _ (hl.own hk).2, fun k ep e xs hk => h.fUnit k _ _ _ (hl.own hk).2, fun r ls hr => ?_, fun r ls hr => ?_, fun r ls hr j hj => ?_,
    fun k1 k2 ep1 e1 xs1 ep2 e2 xs2 h1 h2 => h.dUU k1 k2 _ _ _ _ _ _ (hl.own h1).2 (hl.own h2).2, fun k ep e xs r ls hk hr => ?_, fun r1 r2 l1 l2 h1 h2 hne j1 j2 hj1 hj2 => ?_, fun t v hv => (h.slot t v hv).carry huc hvc, h.pin⟩
  · rcases hl.var hr with ⟨rfl, _⟩ | ⟨_, hr'⟩
    · exact ⟨[], trivial, fun j v hj => by simp at hj, fun j hj => by simp at hj⟩
    · obtain ⟨vs, a1, a2, a3⟩ := h.var r ls hr'
      exact ⟨vs, a1.carry huc, a2, a3⟩
  · rcases hl.var hr with ⟨_, ls', hr'⟩ | ⟨_, hr'⟩
    · exact h.vLt r ls' hr'
    · exact h.vLt r ls hr'
  · rcases hl.var hr with ⟨rfl, _⟩ | ⟨_, hr'⟩
    · simp at hj
    · exact h.fVar r ls hr' j hj
  · rcases hl.var hr with ⟨_, ls', hr'⟩ | ⟨_, hr'⟩
    · exact h.dUV k _ _ _ r ls' (hl.own hk).2 hr'
    · exact h.dUV k _ _ _ r ls (hl.own hk).2 hr'
  · rcases hl.var h1 with ⟨rfl, _⟩ | ⟨_, h1'⟩
    · simp at hj1
    · rcases hl.var h2 with ⟨rfl, _⟩ | ⟨_, h2'⟩
      · simp at hj2
      · exact h.dVV r1 r2 l1 l2 h1' h2' hne j1 j2 hj1 hj2
theorem Rel.okIn (h : Rel c st G w tm) {lock : List (Nat × UE)} {lockV : List (Nat × List Lf)} (hl : LockOk st lock lockV) {F : Nat -> Prop} {C : Nat -> Nat -> Prop} (hF : ∀ b, F b -> LockF st G lock b) (hC : ∀ b o, C b o -> LockF st G lock b \/ LockC st G lockV b o) :
    OkIn c ⟨w, F, C, fun _ => none⟩ ⟨st.sl, lockV ++ st.vs, lock ++ st.us⟩ G w := by
  have noF : ∀ b, b < w.heap.size -> (¬ c.F0 b /\ b < c.w0.heap.size) -> ¬ LockF st G lock b := by
    rintro b _ ⟨h1, h2⟩ ⟨k, ep, e, xs, _, p2, p3⟩
    rcases h.fUnit k _ _ _ p2 b p3 with q | q
    · exact h1 q
    · omega
  refine ⟨rfl, fun b o hb => ?_, fun k ep e xs hk b hb o => ?_, fun r l hr j hj => ?_⟩
  · obtain ⟨h1, h2, h3⟩ := hb
    have hlt : b < w.heap.size := Nat.lt_of_lt_of_le h1 h.kept.size
    refine ⟨hlt, fun q => noF b hlt ⟨h2, h1⟩ (hF b q), fun q => ?_⟩
    rcases hC b o q with q | ⟨r, ls, j, _, p2, p3, rfl, rfl⟩
    · exact noF b hlt ⟨h2, h1⟩ q
    · rcases h.fVar r ls p2 j p3 with q | q
      · exact h3 q
      · omega
  · obtain ⟨g1, g2⟩ := hl.own hk
    have nF : ¬ LockF st G lock b := by
      rintro ⟨k2, ep2, e2, xs2, p1, p2, p3⟩
      exact h.dUU k k2 _ _ _ _ _ _ g2 p2 (fun e => by rw [e, p1] at g1; cases g1) b hb p3
    refine ⟨h.unitLt g2 b hb, fun q => nF (hF b q), fun q => ?_⟩
    rcases hC b o q with q | ⟨r, ls, j, _, p2, p3, rfl, rfl⟩
    · exact nF q
    · exact h.dUV k _ _ _ r ls g2 p2 hb
  · rcases hl.var hr with ⟨rfl, _⟩ | ⟨g1, g2⟩
    · simp at hj
    · have nF : ¬ LockF st G lock (G.va r).1 := by
        rintro ⟨k2, ep2, e2, xs2, p1, p2, p3⟩
        exact h.dUV k2 _ _ _ r l p2 g2 p3
      refine ⟨h.vLt r l g2, fun q => nF (hF _ q), fun q => ?_⟩
      rcases hC _ _ q with q | ⟨r2, ls2, j2, p1, p2, p3, p4, p5⟩
      · exact nF q
      · exact h.dVV r r2 l ls2 g2 p2 (fun e => by rw [e, p1] at g1; cases g1) j j2 hj p3 p4 p5
structure BackOk (c : Cx) (st : St) (G : Gh) (w w' : World) (lock : List (Nat × UE)) (lockV : List (Nat × List Lf)) (F Fo : Nat -> Prop) (nv : List (Nat × List Lf)) (nu : List (Nat × UE)) (uv : Nat -> Value) (uf : Nat -> Nat -> Prop) : Prop where
  own : ∀ i en, getA nu i = some en -> ∃ ep e xs, en = .own ep e xs /\ OwnL w' [.ext e xs] [uv i] (uf i)
  foot : ∀ i b, getA nu i ≠ none -> uf i b -> Fo b \/ (LockF st G lock b /\ ¬ F b)
  dj : ∀ i j, getA nu i ≠ none -> getA nu j ≠ none -> i ≠ j -> Dj (uf i) (uf j)
  old : ∀ i, getA nu i ≠ none -> getA st.us i = none \/ ∃ ep e xs xs', getA st.us i = some (.own ep e xs) /\ getA nu i = some (.own (ep + 1) e xs') /\ uv i = G.uv i
  var : ∀ r ls', getA nv r = some ls' -> getA lockV r = some [] /\ ∃ ls, getA st.vs r = some ls /\ ls'.length = ls.length /\
    ∀ us' (G' : Gh), (∀ i en, getA nu i = some en -> getA us' i = some en) -> (∀ i, getA nu i ≠ none -> G'.uv i = uv i) -> UCompat st.us us' G G' w w' -> ∃ vs, LsRel c us' G' w' ls' vs /\ (∀ j v, vs[j]? = some v -> cellAt w' (G.va r).1 ((G.va r).2 + j) = some v) /\ ∀ j, j < ls.length -> w'.frozen? ⟨(G.va r).1, (G.va r).2 + j, none⟩ = false
  all : ∀ r, getA lockV r ≠ none -> getA nv r ≠ none
theorem Rel.ucompat (h : Rel c st G w tm) {w' : World} {Fw : Nat -> Prop} {Cw : Nat -> Nat -> Prop} (TU : Nat -> Prop) {us' : List (Nat × UE)} {G' : Gh} (hk : KeptW Fw Cw w w')
    (hF : ∀ b, b < w.heap.size -> Fw b -> ∃ k ep e xs, TU k /\ getA st.us k = some (.own ep e xs) /\ G.uf k b)
    (hC : ∀ b o, b < w.heap.size -> Cw b o -> ∃ r ls j, getA st.vs r = some ls /\ j < ls.length /\ b = (G.va r).1 /\ o = (G.va r).2 + j)
    (hu : ∀ k, ¬ TU k -> getA us' k = getA st.us k /\ G'.uv k = G.uv k /\ G'.uf k = G.uf k)
    (tc : ∀ k en, TU k -> getA st.us k = some en -> ∃ en', getA us' k = some en' /\ ∀ ep' e' xs', en' = .own ep' e' xs' -> ∃ ep xs, en = .own ep e' xs /\ G'.uv k = G.uv k /\ ep < ep') : UCompat st.us us' G G' w w' := by
  have hsame : ∀ {k ep e xs}, getA st.us k = some (.own ep e xs) -> ¬ TU k -> ∀ b, G.uf k b -> w'.heap[b]? = w.heap[b]? := by
    intro k ep e xs hk1 hnt b hb
    have hlt := h.unitLt hk1 b hb
    refine hk.same hlt (fun hf => ?_) (fun o hc => ?_)
    · obtain ⟨k2, ep2, e2, xs2, t2, g2, f2⟩ := hF b hlt hf
      exact h.dUU k k2 _ _ _ _ _ _ hk1 g2 (fun e => hnt (e ▸ t2)) b hb f2
    · obtain ⟨r, ls, j, g2, _, rfl, _⟩ := hC b o hlt hc
      exact h.dUV k _ _ _ r ls hk1 g2 hb
  intro k en hen
  by_cases ht : TU k
  · obtain ⟨en', g1, g2⟩ := tc k en ht hen
    refine ⟨en', g1, fun ep' e' xs' he => ?_⟩
    obtain ⟨ep, xs, a1, a2, a3⟩ := g2 ep' e' xs' he
    exact ⟨ep, xs, a1, a2, Nat.le_of_lt a3, fun heq => absurd heq (by omega)⟩
  · obtain ⟨g1, g2, g3⟩ := hu k ht
    refine ⟨en, g1.trans hen, fun ep' e' xs' he => ⟨ep', xs', he, g2, Nat.le_refl _, fun _ => ⟨rfl, fun p e'' ys v' hd => ?_⟩⟩⟩
    subst he
    exact hd.frame (h.unit k _ _ _ hen) (hsame hen ht)
theorem ne_none {α : Type} {o : Option α} {a : α} (h : o = some a) : o ≠ none := by rw [h]; exact fun q => by cases q
theorem Rel.called (h : Rel c st G w tm) {lock : List (Nat × UE)} {lockV : List (Nat × List Lf)} (hl : LockOk st lock lockV) {F Fo Fr : Nat -> Prop} {C : Nat -> Nat -> Prop} (hF : ∀ b, F b -> LockF st G lock b) (hC : ∀ b o, C b o -> LockF st G lock b \/ LockC st G lockV b o)
    (hkept : KeptW F C w w') {lres : List Lf} {rc : List Value} (hres : OwnL w' lres rc Fr) (hFr : ∀ b, Fr b -> F b \/ w.heap.size <= b) (hFo : ∀ b, Fo b -> F b \/ w.heap.size <= b) (hdj : Dj Fr Fo) {d0 : Nat} (hfresh : ∀ i, getA (ownify lres d0).2 i ≠ none -> getA st.us i = none)
    {nv : List (Nat × List Lf)} {nu : List (Nat × UE)} {uv : Nat -> Value} {uf : Nat -> Nat -> Prop} (hb : BackOk c st G w w' lock lockV F Fo nv nu uv uf) (hap : ∀ i, getA nu i ≠ none -> getA (ownify lres d0).2 i = none) :
    ∃ G', Rel c ⟨st.sl, nv ++ st.vs, (nu ++ ((ownify lres d0).2 ++ lock)) ++ st.us⟩ G' w' tm /\ LsRel c ((nu ++ ((ownify lres d0).2 ++ lock)) ++ st.us) G' w' (ownify lres d0).1 rc := by
  obtain ⟨uv1, uf1, ho, hrel⟩ := ownify_own lres rc Fr d0 hres
  generalize hnew : (ownify lres d0).2 = new at *
  let G' : Gh := { va := G.va, uv := fun i => match getA nu i with | some _ => uv i | none => match getA new i with | some _ => uv1 i | none => G.uv i, uf := fun i => match getA nu i with | some _ => uf i | none => match getA new i with | some _ => uf1 i | none => G.uf i }
  have hus : ∀ i, getA ((nu ++ (new ++ lock)) ++ st.us) i = match getA nu i with | some v => some v | none => match getA new i with | some v => some v | none => match getA lock i with | some v => some v | none => getA st.us i := by
    intro i
    rw [getA_append, getA_append, getA_append]
    cases getA nu i <;> simp only [] <;> cases getA new i <;> simp only [] <;> cases getA lock i <;> rfl
  have old1 : ∀ i, getA st.us i ≠ none -> getA new i = none := fun i hi => by
    cases hq : getA new i with
    | none => rfl
    | some en => exact absurd (hfresh i (ne_none hq)) hi
  have hfootN : ∀ i ep e xs, getA ((nu ++ (new ++ lock)) ++ st.us) i = some (.own ep e xs) -> getA (nu ++ (new ++ lock)) i ≠ none -> (getA nu i = some (.own ep e xs) /\ G'.uv i = uv i /\ G'.uf i = uf i) \/ (getA nu i = none /\ getA new i = some (.own ep e xs) /\ G'.uv i = uv1 i /\ G'.uf i = uf1 i) := by
    intro i ep e xs hi hne
    rw [hus] at hi
    rw [getA_append, getA_append] at hne
    cases h1 : getA nu i with
    | some en => rw [h1] at hi; simp only [Option.some.injEq] at hi; subst hi; exact .inl ⟨rfl, by simp [G', h1], by simp [G', h1]⟩
    | none =>
      rw [h1] at hi hne
      simp only at hi hne
      cases h2 : getA new i with
      | some en => rw [h2] at hi; simp only [Option.some.injEq] at hi; subst hi; exact .inr ⟨rfl, rfl, by simp [G', h1, h2], by simp [G', h1, h2]⟩
      | none =>
        rw [h2] at hi hne
        simp only at hi hne
        cases h3 : getA lock i with
        | some en => rw [h3] at hi; simp only [Option.some.injEq] at hi; subst hi; cases (hl.gone i _ h3).1
        | none => exact absurd h3 hne
  have hLock : ∀ b, LockF st G lock b -> ∃ k ep e xs, getA (nu ++ (new ++ lock)) k ≠ none /\ getA st.us k = some (.own ep e xs) /\ G.uf k b := by
    rintro b ⟨k, ep, e, xs, p1, p2, p3⟩
    refine ⟨k, ep, e, xs, ?_, p2, p3⟩
    rw [getA_append, getA_append]
    cases getA nu k with
    | some _ => exact fun q => by cases q
    | none =>
      cases getA new k with
      | some _ => exact fun q => by cases q
      | none => simp only; rw [p1]; exact fun q => by cases q
  have aK : KeptW (fun b => F b \/ LockF st G lock b) (fun b o => LockC st G lockV b o) w w' := ⟨hkept.os, hkept.tape, hkept.output, hkept.size, fun b hbl hn => (hkept.block b hbl (fun q => hn (.inl q))).mono fun j hj => (hC b j hj).resolve_left (fun q => hn (.inr q))⟩
  have aF : ∀ b, b < w.heap.size -> (F b \/ LockF st G lock b) -> ∃ k ep e xs, getA (nu ++ (new ++ lock)) k ≠ none /\ getA st.us k = some (.own ep e xs) /\ G.uf k b := (fun b _ hf => by
      rcases hf with q | q
      · exact hLock b (hF b q)
      · exact hLock b q)
  have aU : ∀ i, ¬ getA (nu ++ (new ++ lock)) i ≠ none -> getA ((nu ++ (new ++ lock)) ++ st.us) i = getA st.us i /\ G'.uv i = G.uv i /\ G'.uf i = G.uf i := (fun i hi => by
      have hi' : getA (nu ++ (new ++ lock)) i = none := by
        cases hq : getA (nu ++ (new ++ lock)) i with
        | none => rfl
        | some _ => exact absurd (ne_none hq) hi
      refine ⟨by rw [getA_append, hi'], ?_⟩
      rw [getA_append, getA_append] at hi'
      cases h1 : getA nu i with
      | some _ => rw [h1] at hi'; cases hi'
      | none =>
        rw [h1] at hi'
        simp only at hi'
        cases h2 : getA new i with
        | some _ => rw [h2] at hi'; cases hi'
        | none => exact ⟨by simp [G', h1, h2], by simp [G', h1, h2]⟩)
  have aTc : ∀ i en, getA (nu ++ (new ++ lock)) i ≠ none -> getA st.us i = some en -> ∃ en', getA ((nu ++ (new ++ lock)) ++ st.us) i = some en' /\ ∀ ep' e' xs', en' = .own ep' e' xs' -> ∃ ep xs, en = .own ep e' xs /\ G'.uv i = G.uv i /\ ep < ep' := (fun i en hi hg => by
      rw [getA_append, getA_append] at hi
      rw [hus]
      cases h1 : getA nu i with
      | some en2 =>
        refine ⟨en2, rfl, fun ep' e' xs' he => ?_⟩
        subst he
        rcases hb.old i (ne_none h1) with q | ⟨ep, e, xs, xs2, q1, q2, q3⟩
        · rw [hg] at q; cases q
        · rw [h1] at q2
          cases q2
          rw [hg] at q1
          cases q1
          exact ⟨ep, xs, rfl, by simp [G', h1, q3], Nat.lt_succ_self _⟩
      | none =>
        have h2 := old1 i (ne_none hg)
        rw [h1, h2] at hi
        simp only at hi
        cases h3 : getA lock i with
        | none => exact absurd h3 hi
        | some en2 =>
          refine ⟨.gone, by rw [h2]; simp only [(hl.gone i _ h3).1], fun _ _ _ he => by cases he⟩)
  have huc : UCompat st.us ((nu ++ (new ++ lock)) ++ st.us) G G' w w' := h.ucompat (fun i => getA (nu ++ (new ++ lock)) i ≠ none) aK aF (fun b o _ ⟨r, ls, j, p1, p2, p3, p4, p5⟩ => ⟨r, ls, j, p2, p3, p4, p5⟩) aU aTc
  have hnuG : ∀ i, getA nu i ≠ none -> G'.uv i = uv i := fun i hi => by
    obtain ⟨q, hq⟩ := Option.ne_none_iff_exists'.1 hi
    simp [G', hq]
  have hnuU : ∀ i en, getA nu i = some en -> getA ((nu ++ (new ++ lock)) ++ st.us) i = some en := fun i en hi => by rw [hus, hi]
  have key := h.upd (fun i => getA (nu ++ (new ++ lock)) i ≠ none) (fun r => getA nv r ≠ none) (us' := (nu ++ (new ++ lock)) ++ st.us) (vs' := nv ++ st.vs) (G' := G') (w' := w')
    (Fw := fun b => F b \/ LockF st G lock b) (Cw := fun b o => LockC st G lockV b o)
    aK
    aF
    (fun b o _ ⟨r, ls, j, p1, p2, p3, p4, p5⟩ => ⟨r, ls, j, hb.all r (ne_none p1), p2, p3, p4, p5⟩)
    aU
    (fun r hr => by
      have hr' : getA nv r = none := by
        cases hq : getA nv r with
        | none => rfl
        | some _ => exact absurd (ne_none hq) hr
      exact ⟨by rw [getA_append, hr'], rfl⟩)
    (fun i ep e xs hi hg => by
      rcases hfootN i ep e xs hg hi with ⟨p1, p2, p3⟩ | ⟨p0, p1, p2, p3⟩
      · obtain ⟨ep', e', xs', q1, q2⟩ := hb.own i _ p1
        cases q1
        rw [p2, p3]
        refine ⟨q2, fun b hbb => ?_⟩
        rcases hb.foot i b (ne_none p1) hbb with q | ⟨q, _⟩
        · rcases hFo b q with q | q
          · exact .inl (hLock b (hF b q))
          · exact .inr q
        · exact .inl (hLock b q)
      · obtain ⟨e', xs', q1, q2, q3⟩ := ho.own i _ p1
        cases q1
        rw [p2, p3]
        refine ⟨q2, fun b hbb => ?_⟩
        rcases hFr b (q3 b hbb) with q | q
        · exact .inl (hLock b (hF b q))
        · exact .inr q)
    (fun i1 i2 ep1 e1 xs1 ep2 e2 xs2 t1 t2 g1 g2 hne => by
      have cross : ∀ i j, getA nu i ≠ none -> getA new j ≠ none -> Dj (uf i) (uf1 j) := by
        intro i j hi hj b b1 b2
        obtain ⟨en, hen⟩ := Option.ne_none_iff_exists'.1 hj
        obtain ⟨_, _, _, _, q3⟩ := ho.own j en hen
        have hbr := q3 b b2
        rcases hb.foot i b hi b1 with q | ⟨q, q'⟩
        · exact hdj b hbr q
        · rcases hFr b hbr with p | p
          · exact q' p
          · obtain ⟨k, ep, e, xs, _, p2, p3⟩ := q
            have := h.unitLt p2 b p3
            omega
      rcases hfootN i1 _ _ _ g1 t1 with ⟨p1, p2, p3⟩ | ⟨p0, p1, p2, p3⟩ <;> rcases hfootN i2 _ _ _ g2 t2 with ⟨q1, q2, q3⟩ | ⟨q0, q1, q2, q3⟩ <;> rw [p3, q3]
      · exact hb.dj i1 i2 (ne_none p1) (ne_none q1) hne
      · exact cross i1 i2 (ne_none p1) (ne_none q1)
      · exact fun b b1 b2 => cross i2 i1 (ne_none q1) (ne_none p1) b b2 b1
      · exact ho.dj i1 i2 (ne_none p1) (ne_none q1) hne)
    aTc
    (fun r ls' hr hg => by
      rw [getA_append] at hg
      obtain ⟨l2, hl2⟩ := Option.ne_none_iff_exists'.1 hr
      rw [hl2] at hg
      simp only [Option.some.injEq] at hg
      subst hg
      obtain ⟨b1, ls, b2, b3, b4⟩ := hb.var r l2 hl2
      obtain ⟨vs, d1, d2, d3⟩ := b4 _ G' hnuU hnuG huc
      exact ⟨⟨vs, d1, d2, fun j hj => d3 j (by omega)⟩, .inl ⟨ls, b2, b3, rfl⟩⟩)
    (fun r1 r2 l1 l2 t1 t2 _ _ n1 _ _ => by
      obtain ⟨q, hq⟩ := Option.ne_none_iff_exists'.1 t1
      obtain ⟨_, ls, hls, _⟩ := hb.var r1 q hq
      rw [hls] at n1; cases n1)
    (fun i ep e xs r ls _ t2 _ _ n1 => by
      obtain ⟨q, hq⟩ := Option.ne_none_iff_exists'.1 t2
      obtain ⟨_, ls, hls, _⟩ := hb.var r q hq
      rw [hls] at n1; cases n1)
    (fun r ls hr _ => by
      obtain ⟨q, hq⟩ := Option.ne_none_iff_exists'.1 hr
      exact ⟨q, by rw [getA_append, hq]⟩)
  refine ⟨G', key.1, hrel c _ G' (fun i en hi => ?_) (fun i hi => ?_)⟩
  · have h1 : getA nu i = none := by
      cases hq : getA nu i with
      | none => rfl
      | some en2 => have := hap i (ne_none hq); rw [hi] at this; cases this
    rw [hus, h1, hi]
  · obtain ⟨q, hq⟩ := Option.ne_none_iff_exists'.1 hi
    have h1 : getA nu i = none := by
      cases hq2 : getA nu i with
      | none => rfl
      | some en2 => have := hap i (ne_none hq2); rw [hq] at this; cases this
    simp [G', h1, hq]
end
end Go.Proofs.YtaflceohlijekaaGreat.Ev
namespace Go.Proofs.YtaflceohlijekaaGreat.Ev
theorem ownify_length : ∀ (ls : List Lf) (k : Nat), (ownify ls k).1.length = ls.length
  | [], _ => rfl
  | .ext e xs :: t, k => by simp [ownify, ownify_length t]
  | .int .. :: t, k => by simp [ownify, ownify_length t]
  | .bool _ :: t, k => by simp [ownify, ownify_length t]
  | .str _ :: t, k => by simp [ownify, ownify_length t]
  | .own .. :: t, k => by simp [ownify, ownify_length t]
  | .sub .. :: t, k => by simp [ownify, ownify_length t]
  | .nl _ :: t, k => by simp [ownify, ownify_length t]
  | .dead :: t, k => by simp [ownify, ownify_length t]
theorem freshU_none {us new : List (Nat × UE)} (h : freshU us new = true) : ∀ i, getA new i ≠ none -> getA us i = none := by
  intro i hi
  have mem : ∀ (l : List (Nat × UE)) (i : Nat) (en : UE), getA l i = some en -> ∃ q ∈ l, q.1 = i := by
    intro l
    induction l with
    | nil => intro i en h; cases h
    | cons q t ih =>
      intro i en h
      obtain ⟨k, v⟩ := q
      rw [getA_cons] at h
      split at h
      · rename_i e; exact ⟨_, List.mem_cons_self, e⟩
      · obtain ⟨q, q1, q2⟩ := ih i en h
        exact ⟨q, List.mem_cons_of_mem _ q1, q2⟩
  obtain ⟨en, hen⟩ := Option.ne_none_iff_exists'.1 hi
  obtain ⟨q, q1, rfl⟩ := mem _ _ _ hen
  unfold freshU at h
  have := List.all_eq_true.1 h q q1
  simpa using this
structure LendOk (c : Cx) (st : St) (G : Gh) (w : World) (p : Par) (v : Value) (l : Lent) (y : p.sh.T) (F : Nat -> Prop) (C : Nat -> Nat -> Prop) : Prop where
  lock : LockOk st l.lock l.lockV
  ls : l.ls = flat p.sh y
  foot : ∀ b, F b -> LockF st G l.lock b
  cells : ∀ b o, C b o -> LockF st G l.lock b \/ LockC st G l.lockV b o
  arg : ArgRel ⟨w, F, C, fun _ => none⟩ p y v
  back : ∀ w' oc (y' : p.sh.T) Fo nv nu kk, KeptW F C w w' -> OwnL w' (flat p.sh y') oc Fo -> (∀ b, Fo b -> F b \/ w.heap.size <= b) -> OutRel w' [p] [v] oc -> l.back (flat p.sh y') kk = some (nv, nu) -> ∃ uv uf, BackOk c st G w w' l.lock l.lockV F Fo nv nu uv uf
section
variable {P : Program} {E : Env} {c : Cx} {st : St} {G G' : Gh} {w w' : World} {a : Act} {o : Oper} {K : Act -> World -> Prop} {Q : Exit -> Act -> World -> Prop} {tm : Nat -> Value}
theorem lend_var (h : Rel c st G w tm) {s : Sh} {r off : Nat} {cs : List Lf} {v : Value} (hv : PtrRel c st.us st.vs G w (.var r off) v) (hr : getA st.vs r = some cs) (hle : off + s.n <= cs.length) {y : s.T} {nu0 : List (Nat × UE)} (hg : give st.us s ((cs.drop off).take s.n) = some (y, nu0, [])) :
    ∃ F C, LendOk c st G w (.mut s) v ⟨flat s y, nu0, [(r, [])], fun out k => let o := ownify out k; match freshU st.us o.2 with | true => if out.length = s.n then some ([(r, setRange off cs o.1)], o.2) else none | false => none⟩ y F C := by
  obtain ⟨l', q1, rfl⟩ := hv
  rw [hr] at q1
  cases q1
  obtain ⟨vs, a1, a2, a3⟩ := h.var r cs hr
  have hlen := a1.length
  obtain ⟨v1, v2, F, e1, e2, e3, e4, e5⟩ := give_own h s st.us _ y nu0 [] ((vs.drop off).take s.n) (fun _ _ _ _ q => q) hg ((a1.drop off).take s.n)
  have hv2 : v2 = [] := by have := e3.length; simpa using this
  subst hv2
  rw [List.append_nil] at e1
  subst e1
  have hFg : ¬ F (G.va r).1 := by
    intro hf
    obtain ⟨k, ep, e, xs, _, p2, p3⟩ := e5.foot _ hf
    exact h.dUV k _ _ _ r cs p2 hr p3
  have hcell : ∀ j u, ((vs.drop off).take s.n)[j]? = some u -> cellAt w (G.va r).1 ((G.va r).2 + off + j) = some u := by
    intro j u hj
    rw [List.getElem?_take] at hj
    split at hj
    · rw [List.getElem?_drop] at hj
      have := a2 _ _ hj
      rwa [<- Nat.add_assoc] at this
    · cases hj
  refine ⟨F, fun b o => b = (G.va r).1 /\ ∃ j, j < s.n /\ o = (G.va r).2 + off + j, ⟨⟨fun i en hi => e5.gone i en hi, fun r' l hl => ?_⟩, rfl, fun b hb => e5.foot b hb, ?_, ?_, ?_⟩⟩
  · rw [getA_cons] at hl
    split at hl
    · rename_i hrr
      subst hrr
      cases hl
      exact ⟨rfl, cs, hr⟩
    · cases hl
  · rintro b o ⟨rfl, j, hj, rfl⟩
    exact .inr ⟨r, cs, off + j, by rw [getA_cons, if_pos rfl], hr, by omega, rfl, by omega⟩
  · exact ⟨(G.va r).1, (G.va r).2 + off, _, F, rfl, h.vLt r cs hr, hcell, fun j hj => by rw [Nat.add_assoc]; exact a3 _ (by omega), e4, fun b hb => hb, fun j hj => ⟨rfl, j, hj, rfl⟩, hFg⟩
  · intro w' oc y' Fo nv nu kk hkept hown hFo hout hback
    simp only at hback
    split at hback
    · rename_i hfresh
      split at hback
      · rename_i hol
        simp only [Option.some.injEq, Prod.mk.injEq] at hback
        obtain ⟨rfl, rfl⟩ := hback
        obtain ⟨uv, uf, ho, hrel⟩ := ownify_own (flat s y') oc Fo kk hown
        have hoc : oc.length = s.n := by rw [hown.length, flat_length]
        have hol1 : (ownify (flat s y') kk).1.length = s.n := by rw [ownify_length, flat_length]
        obtain ⟨c1, c2, rfl, o2, ⟨g, o', hp, o3⟩, o4⟩ := hout
        cases hp
        have : c2 = [] := o4
        subst this
        rw [List.append_nil] at *
        have hblk := hkept.block (G.va r).1 (h.vLt r cs hr) hFg
        have ho' := ho.own
        refine ⟨uv, uf, ⟨fun i en hi => ?_, fun i b hi hb => ?_, ho.dj, fun i hi => .inl (freshU_none hfresh i hi), fun r' ls' hr' => ?_, fun r' hr' => ?_⟩⟩
        · obtain ⟨e, xs, q1, q2, _⟩ := ho.own i en hi
          exact ⟨0, e, xs, q1, q2⟩
        · obtain ⟨en, hen⟩ := Option.ne_none_iff_exists'.1 hi
          obtain ⟨_, _, _, _, q3⟩ := ho.own i en hen
          exact .inl (q3 b hb)
        · rw [getA_cons] at hr'
          split at hr'
          · rename_i hrr
            subst hrr
            cases hr'
            have hle2 : off + (ownify (flat s y') kk).1.length <= cs.length := by omega
            refine ⟨by rw [getA_cons, if_pos rfl], cs, hr, setRange_length hle2, fun us' G' hu1 hu2 huc => ⟨vs.take off ++ (c1 ++ vs.drop (off + s.n)), ?_, fun j u hj => ?_, fun j hj => ?_⟩⟩
            · rw [setRange_eq _ _ _ hle2, hol1]
              exact LsRel.append (LsRel.take _ (a1.carry huc)) (LsRel.append (hrel c us' G' hu1 hu2) (LsRel.drop _ (a1.carry huc)))
            · by_cases h1 : j < off
              · rw [List.getElem?_append_left (by simp; omega), List.getElem?_take, if_pos h1] at hj
                have := a2 j u hj
                rw [hkept.cell (cellAt_lt this) hFg (fun ⟨_, j2, _, q⟩ => by omega)]
                exact this
              · rw [List.getElem?_append_right (by simp; omega)] at hj
                simp only [List.length_take] at hj
                rw [Nat.min_eq_left (by omega)] at hj
                by_cases h2 : j < off + s.n
                · rw [List.getElem?_append_left (by omega)] at hj
                  have := o3 (j - off) u hj
                  rw [show (G.va r).2 + off + (j - off) = (G.va r).2 + j by omega] at this
                  exact this
                · rw [List.getElem?_append_right (by omega), List.getElem?_drop, o2, show off + s.n + (j - off - s.n) = j by omega] at hj
                  have := a2 j u hj
                  rw [hkept.cell (cellAt_lt this) hFg (fun ⟨_, j2, _, q⟩ => by omega)]
                  exact this
            · rw [hblk.frozen]
              exact a3 j hj
          · cases hr'
        · rw [getA_cons] at hr' ⊢
          split at hr'
          · rename_i hrr
            rw [if_pos hrr]
            exact fun q => by cases q
          · exact absurd rfl hr'
      · cases hback
    · cases hback
theorem lend_elem (h : Rel c st G w tm) {s : Sh} {k ep : Nat} {p : Path} {e : Sh} {i off : Nat} {v : Value} (hv : PtrRel c st.us st.vs G w (.elem k ep p e i off) v) {ep0 : Nat} {e0 : Sh} {xs0 : List e0.T} {xs : List e.T}
    (hat : atUnit st k ep p e = some (ep0, ⟨e0, xs0, xs⟩)) {y : s.T} (hz : Ev.subAt e (xs.getD i e.dflt) off s = some y) :
    ∃ F C, LendOk c st G w (.mut s) v ⟨flat s y, [(k, .gone)], [], fun out _ => match unflat [] s out with
        | some (y, []) => match putElem k ep0 p e0 xs0 e xs i off s y with
          | some en => some ([], [en])
          | none => none
        | _ => none⟩ y F C := by
  obtain ⟨hk, _⟩ := atUnit_own hat
  obtain ⟨g, o', F1, Fk, m1, m2, ⟨inner, m3a, m3b, m3c⟩, m4, m5, m6, m7, ⟨cur, et, fr, m8a, m8b⟩, m8⟩ := h.elemPut hv hat hz
  have hgl : getA [(k, UE.gone)] k = some .gone := by rw [getA_cons, if_pos rfl]
  have hLF : ∀ b, G.uf k b -> LockF st G [(k, .gone)] b := fun b hb => ⟨k, _, _, _, hgl, hk, hb⟩
  have hlt : g < w.heap.size := (Array.getElem?_eq_some_iff.1 m8a).1
  refine ⟨F1, fun b o => b = g /\ ∃ j, j < s.n /\ o = o' + j, ⟨⟨fun i en hi => ?_, fun _ _ hl => by cases hl⟩, rfl, fun b hb => hLF b ((m5 b).2 (.inl hb)), ?_, ?_, ?_⟩⟩
  · rw [getA_cons] at hi
    split at hi
    · rename_i hkk
      subst hkk
      cases hi
      exact ⟨rfl, _, _, _, hk⟩
    · cases hi
  · rintro b o ⟨rfl, _⟩
    exact .inl (hLF _ m2)
  · exact ⟨g, o', inner, F1, m1, hlt, m3c, fun j hj => (m4 j hj).1, m3a, fun b hb => hb, fun j hj => ⟨rfl, j, hj, rfl⟩, fun q => m7 g q m6⟩
  · intro w' oc y' Fo nv nu kk hkept hown hFo hout hback
    have hun := unflat_flat [] s y' []
    rw [List.append_nil] at hun
    simp only [hun] at hback
    obtain ⟨en, xs', n1, n2, n3⟩ := m8 y'
    rw [n1] at hback
    simp only [Option.some.injEq, Prod.mk.injEq] at hback
    obtain ⟨rfl, rfl⟩ := hback
    subst n2
    obtain ⟨c1, c2, rfl, o2, ⟨g', o'', hp, o3⟩, o4⟩ := hout
    rw [m1] at hp
    cases hp
    have : c2 = [] := o4
    subst this
    rw [List.append_nil] at *
    have hdj : Dj Fo Fk := by
      intro b hb hb2
      rcases hFo b hb with q | q
      · exact m7 b q hb2
      · have := h.unitLt hk b ((m5 b).2 (.inr hb2)); omega
    have hF1g : ¬ F1 g := fun q => m7 g q m6
    have hobj : ∃ cur cur' et fr, w.heap[g]? = some (.cells cur et fr) /\ w'.heap[g]? = some (.cells cur' et fr) /\ cur'.size = cur.size /\ (∀ j, j < o' \/ o' + s.n <= j -> cur'[j]? = cur[j]?) /\ ∀ j, j < s.n -> cur'[o' + j]? = c1[j]? := by
      have inside : ∀ cur' : Array Value, (∃ et fr, w'.heap[g]? = some (.cells cur' et fr)) -> ∀ j, j < s.n -> cur'[o' + j]? = c1[j]? := by
        rintro cur' ⟨et, fr, hc⟩ j hj
        have hjl : j < c1.length := by omega
        have := o3 j _ (List.getElem?_eq_getElem hjl)
        rw [cellAt_of hc] at this
        rw [this, List.getElem?_eq_getElem hjl]
      rcases hkept.block g hlt hF1g with q | ⟨c0, c0', et0, fr0, q1, q2, q3, q4⟩
      · exact ⟨cur, cur, et, fr, m8a, q.trans m8a, rfl, fun _ _ => rfl, inside cur ⟨et, fr, q.trans m8a⟩⟩
      · exact ⟨c0, c0', et0, fr0, q1, q2, q3, fun j hj => q4 j (fun ⟨_, j2, _, q⟩ => by omega), inside c0' ⟨et0, fr0, q2⟩⟩
    have hnew := n3 w' c1 Fo (fun b hb hne => hkept.same (h.unitLt hk b ((m5 b).2 (.inr hb))) (fun q => m7 b q hb) (fun o ⟨q, _⟩ => hne q)) hobj hown hdj
    refine ⟨fun _ => G.uv k, fun _ b => Fo b \/ Fk b, ⟨fun i en hi => ?_, fun i b hi hb => ?_, fun i j hi hj hne => ?_, fun i hi => ?_, fun _ _ hr => (by cases hr), fun _ hr => absurd rfl hr⟩⟩
    · rw [getA_cons] at hi
      split at hi
      · cases hi; exact ⟨_, _, _, rfl, hnew⟩
      · cases hi
    · rcases hb with hb | hb
      · exact .inl hb
      · exact .inr ⟨hLF b ((m5 b).2 (.inr hb)), fun q => m7 b q hb⟩
    · rw [getA_cons] at hi hj
      split at hi
      · rename_i e1
        split at hj
        · rename_i e2; exact absurd (e1.symm.trans e2) hne
        · exact absurd rfl hj
      · exact absurd rfl hi
    · rw [getA_cons] at hi
      split at hi
      · rename_i e1
        subst e1
        exact .inr ⟨_, _, _, _, hk, by rw [getA_cons, if_pos rfl], rfl⟩
      · exact absurd rfl hi
theorem lend_slice (h : Rel c st G w tm) {k ep : Nat} {p : Path} {e e1 : Sh} {v : Value} (hv : LfRel c st.us G w (.own k ep p e1) v) {ep0 : Nat} {e0 : Sh} {xs0 : List e0.T} {xs : List e.T}
    (hat : atUnit st k ep p e = some (ep0, ⟨e0, xs0, xs⟩)) :
    ∃ F C, LendOk c st G w (.muts e) v ⟨[.ext e xs], [(k, .gone)], [], fun out _ => match unflat [] (.sl e) out with
      | some (ys, []) => match updAt p e0 xs0 e ys with
        | some xs1 => some ([], [(k, .own (ep0 + 1) e0 xs1)])
        | none => none
      | _ => none⟩ xs F C := by
  obtain ⟨hk, hcont⟩ := atUnit_own hat
  obtain ⟨ep1, e1', xs1, g1, g2, g3⟩ := content_own hcont
  rw [hk] at g1
  cases g1
  obtain ⟨en, q1, q2⟩ := hv
  rw [hk] at q1
  cases q1
  obtain ⟨zs, hd'⟩ := (q2 _ _ _ rfl).2 g2
  have := descend_shape _ _ _ _ _ _ _ g3 hd'.descend
  cases this
  obtain ⟨Fl, Fr, h3, h4, h5, h6⟩ := hd'.own (h.unit _ _ _ _ hk)
  have hgl : getA [(k, UE.gone)] k = some .gone := by rw [getA_cons, if_pos rfl]
  have hLF : ∀ b, G.uf k b -> LockF st G [(k, .gone)] b := fun b hb => ⟨k, _, _, _, hgl, hk, hb⟩
  refine ⟨Fl, fun _ _ => False, ⟨⟨fun i en hi => ?_, fun _ _ hl => by cases hl⟩, rfl, fun b hb => hLF b ((h5 b).2 (.inl hb)), fun _ _ q => q.elim, ⟨Fl, h3, fun b hb => hb⟩, ?_⟩⟩
  · rw [getA_cons] at hi
    split at hi
    · rename_i hkk
      subst hkk
      cases hi
      exact ⟨rfl, _, _, _, hk⟩
    · cases hi
  · intro w' oc y' Fo nv nu kk hkept hown hFo hout hback
    have hun := unflat_flat [] (.sl e) y' []
    rw [List.append_nil] at hun
    simp only [hun] at hback
    obtain ⟨c2, rfl, o4⟩ := hout
    have : c2 = [] := o4
    subst this
    have hdj : Dj Fo Fr := by
      intro b hb hb2
      rcases hFo b hb with q | q
      · exact h4 b q hb2
      · have := h.unitLt hk b ((h5 b).2 (.inr hb2)); omega
    obtain ⟨xs', u1, _, u3, _⟩ := h6 w' y' Fo (fun b hb => hkept.same (h.unitLt hk b ((h5 b).2 (.inr hb))) (fun q => h4 b q hb) (fun o q => q)) hown hdj
    simp only [u1, Option.some.injEq, Prod.mk.injEq] at hback
    obtain ⟨rfl, rfl⟩ := hback
    refine ⟨fun _ => G.uv k, fun _ b => Fo b \/ Fr b, ⟨fun i en hi => ?_, fun i b hi hb => ?_, fun i j hi hj hne => ?_, fun i hi => ?_, fun _ _ hr => (by cases hr), fun _ hr => absurd rfl hr⟩⟩
    · rw [getA_cons] at hi
      split at hi
      · cases hi; exact ⟨_, _, _, rfl, u3⟩
      · cases hi
    · rcases hb with hb | hb
      · exact .inl hb
      · exact .inr ⟨hLF b ((h5 b).2 (.inr hb)), fun q => h4 b q hb⟩
    · rw [getA_cons] at hi hj
      split at hi
      · rename_i e1
        split at hj
        · rename_i e2; exact absurd (e1.symm.trans e2) hne
        · exact absurd rfl hj
      · exact absurd rfl hi
    · rw [getA_cons] at hi
      split at hi
      · rename_i e1
        subst e1
        exact .inr ⟨_, _, _, _, hk, by rw [getA_cons, if_pos rfl], rfl⟩
      · exact absurd rfl hi
theorem lend_fld (h : Rel c st G w tm) {r off : Nat} {s : Sh} {o : Nat} {e : Sh} {v : Value} (hv : PtrRel c st.us st.vs G w (.var r off) v) {cs : List Lf} (hr : getA st.vs r = some cs) (hle : off + s.n <= cs.length /\ o < s.n) {k ep : Nat} {p : Path} {e1 : Sh} (hc : cs[off + o]? = some (.own k ep p e1)) {ep0 : Nat} {e0 : Sh} {xs0 : List e0.T} {xs : List e.T}
    (hat : atUnit st k ep p e = some (ep0, ⟨e0, xs0, xs⟩)) :
    ∃ F C, LendOk c st G w (.fld s o e) v ⟨[.ext e xs], [(k, .gone)], [], fun out _ => match unflat [] (.sl e) out with
      | some (ys, []) => match updAt p e0 xs0 e ys with
        | some xs1 => some ([], [(k, .own (ep0 + 1) e0 xs1)])
        | none => none
      | _ => none⟩ xs F C := by
  obtain ⟨l', g1, rfl⟩ := hv
  obtain ⟨vs, a1, a2, a3⟩ := h.var r cs hr
  have hlen := a1.length
  obtain ⟨hv, hvs, hlf⟩ : ∃ hv, vs[off + o]? = some hv /\ LfRel c st.us G w (.own k ep p e1) hv := by
    have : off + o < vs.length := by omega
    refine ⟨vs[off + o], List.getElem?_eq_getElem this, ?_⟩
    exact (LsRel.at a1 hc (List.getElem?_eq_getElem this)).1
  obtain ⟨F, C, hl, hls, hfoot, hcells, harg, hback⟩ := lend_slice h hlf hat
  have hcell := a2 _ _ hvs
  have hlt := h.vLt r cs hr
  have hnF : ∀ b, F b -> b ≠ (G.va r).1 := by
    intro b hb hbb
    obtain ⟨k2, ep2, e2, xs2, p1, p2, p3⟩ := hfoot b hb
    exact h.dUV k2 _ _ _ r cs p2 hr (hbb ▸ p3)
  have hnC : ∀ b o', C b o' -> b ≠ (G.va r).1 := by
    intro b o' hb hbb
    rcases hcells b o' hb with ⟨k2, ep2, e2, xs2, p1, p2, p3⟩ | ⟨r2, l2, j2, p1, _⟩
    · exact h.dUV k2 _ _ _ r cs p2 hr (hbb ▸ p3)
    · cases p1
  obtain ⟨F1, hown, hF1⟩ := harg
  refine ⟨F, C, hl, hls, hfoot, hcells, ⟨(G.va r).1, (G.va r).2 + off, hv, F1, (vs.drop off).take s.n, rfl, by simp; omega, fun j u hj => ?_, ?_, hown, hF1⟩, ?_⟩
  · rw [List.getElem?_take] at hj
    split at hj
    · rw [List.getElem?_drop] at hj
      have := a2 _ _ hj
      refine ⟨by rw [Nat.add_assoc]; exact this, ⟨hlt, fun q => hnF _ q rfl, fun q => hnC _ _ q rfl⟩, ?_⟩
      have hj2 : off + j < cs.length := by
        have : off + j < vs.length := by
          rcases Nat.lt_or_ge (off + j) vs.length with q | q
          · exact q
          · rw [List.getElem?_eq_none q] at hj; cases hj
        omega
      exact (LsRel.at a1 (List.getElem?_eq_getElem hj2) hj).2
    · cases hj
  · rw [List.getElem?_take, if_pos hle.2, List.getElem?_drop]
    exact hvs
  · intro w' oc y' Fo nv nu kk hkept hown' hFo hout hbk
    obtain ⟨hv', c2, rfl, ⟨g, q, e1, e2⟩, o4⟩ := hout
    cases e1
    have hc2 : c2 = [] := o4
    subst hc2
    have : hv' = hv := by
      rw [Nat.add_assoc, hkept.cell hlt (fun q => hnF _ q rfl) (fun q => hnC _ _ q rfl), hcell] at e2
      exact (Option.some.inj e2).symm
    subst this
    exact hback w' _ y' Fo nv nu kk hkept hown' hFo ⟨[], rfl, rfl⟩ hbk
theorem lend_nil (h : Rel c st G w tm) {e : Sh} {v : Value} (hv : v = .slice none 0 0) : ∃ F C, LendOk c st G w (.muts e) v ⟨[.ext e []], [], [], fun _ _ => some ([], [])⟩ [] F C := by
  subst hv
  refine ⟨fun _ => False, fun _ _ => False, ⟨⟨fun _ _ hl => (by cases hl), fun _ _ hl => (by cases hl)⟩, rfl, fun _ q => q.elim, fun _ _ q => q.elim, ⟨_, .nl .nil, fun _ q => q⟩, ?_⟩⟩
  intro w' oc y' Fo nv nu kk hkept hown hFo hout hback
  simp only [Option.some.injEq, Prod.mk.injEq] at hback
  obtain ⟨rfl, rfl⟩ := hback
  exact ⟨fun _ => .bool true, fun _ _ => False, ⟨fun _ _ h => (by cases h), fun _ _ h => absurd rfl h, fun _ _ h => absurd rfl h, fun _ h => absurd rfl h, fun _ _ h => (by cases h), fun _ h => absurd rfl h⟩⟩
theorem lend_ok (h : Rel c st G w tm) {p : Par} {av : Option AV} {v : Value} (hv : ∀ x, av = some x -> VRel c st.us st.vs G w x v) {l : Lent} (hl : lend st p av = some l) : ∃ y F C, LendOk c st G w p v l y F C := by
  unfold lend at hl
  split at hl
  · rename_i s r off
    split at hl
    · rename_i cs hr
      split at hl
      · rename_i hle
        split at hl
        · rename_i x nu hg
          cases hl
          exact ⟨x, lend_var h (hv _ rfl) hr hle hg⟩
        · cases hl
      · cases hl
    · cases hl
  · rename_i s k ep p e i off
    split at hl
    · rename_i ep0 e0 xs0 xs hat
      split at hl
      · rename_i x hx
        cases hl
        exact ⟨x, lend_elem h (hv _ rfl) hat hx⟩
      · cases hl
    · cases hl
  · rename_i e k ep p e1
    split at hl
    · rename_i ep0 e0 xs0 xs hat
      cases hl
      have := hv _ rfl
      exact ⟨xs, lend_slice h this.1.1 hat⟩
    · cases hl
  · rename_i s o e r off
    split at hl
    · rename_i cs hr
      split at hl
      · rename_i hle
        split at hl
        · rename_i k ep p e1 hc
          split at hl
          · rename_i ep0 e0 xs0 xs hat
            cases hl
            exact ⟨xs, lend_fld h (hv _ rfl) hr hle hc hat⟩
          · cases hl
        · cases hl
      · cases hl
    · cases hl
  · rename_i e e1
    cases hl
    have := hv _ rfl
    exact ⟨[], lend_nil h this.1.1⟩
  · cases hl
end
end Go.Proofs.YtaflceohlijekaaGreat.Ev
namespace Go.Proofs.YtaflceohlijekaaGreat.Ev
def sumN : List Sh -> Nat
  | [] => 0 | s :: t => s.n + sumN t
theorem nRes_sum : ∀ (rs : List (Bool × Sh)), nRes rs = sumN (resOf rs)
  | [] => rfl
  | p :: t => by simp [nRes, sumN, resOf, nRes_sum t]
theorem prod_n : ∀ (A : List Sh), (prod A).n = sumN A
  | [] => rfl
  | [a] => by simp [prod, sumN]
  | a :: b :: t => by
    have := prod_n (b :: t)
    show a.n + (prod (b :: t)).n = _
    rw [this]
    rfl
theorem flat_snoc (s : Sh) : ∀ (A : List Sh) (r : (prod (A ++ [s])).T), ∃ l1, ∃ (y : s.T), flat (prod (A ++ [s])) r = l1 ++ flat s y /\ l1.length = sumN A
  | [], r => ⟨[], r, rfl, rfl⟩
  | [a], r => ⟨flat a r.1, r.2, rfl, by simp [flat_length, sumN]⟩
  | a :: b :: t, r => by
    obtain ⟨l1, y, h1, h2⟩ := flat_snoc s (b :: t) r.2
    refine ⟨flat a r.1 ++ l1, y, ?_, by simp [flat_length, h2, sumN]⟩
    show flat a r.1 ++ flat (prod ((b :: t) ++ [s])) r.2 = _
    rw [h1, List.append_assoc]
theorem lent_none {st : St} : ∀ {ps : List Par} {as : List (Option AV)}, lentOf st ps as = some none -> ∀ p ∈ ps, p.isMut = false
  | [], _, _, p, hp => by cases hp
  | .val g s :: ps, a :: as, h, p, hp => by
    cases hp with
    | head => rfl
    | tail _ hp => exact lent_none (ps := ps) (as := as) h p hp
  | .ro s :: ps, a :: as, h, p, hp => by
    cases hp with
    | head => rfl
    | tail _ hp => exact lent_none (ps := ps) (as := as) h p hp
  | .mut s :: ps, a :: as, h, p, hp => by simp only [lentOf] at h; split at h <;> cases h
  | .muts s :: ps, a :: as, h, p, hp => by simp only [lentOf] at h; split at h <;> cases h
  | .fld s o e :: ps, a :: as, h, p, hp => by simp only [lentOf] at h; split at h <;> cases h
  | _ :: _, [], h, p, hp => by simp [lentOf] at h
theorem lent_some {st : St} {l : Lent} : ∀ {ps : List Par} {as : List (Option AV)}, lentOf st ps as = some (some l) -> ∃ (i : Nat) (p : Par) (a : Option AV), ps[i]? = some p /\ as[i]? = some a /\ p.isMut = true /\ lend st p a = some l
  | [], _, h => by simp [lentOf] at h
  | .val g s :: ps, a :: as, h => by
    obtain ⟨i, p, a', h1, h2, h3, h4⟩ := lent_some (ps := ps) (as := as) h
    exact ⟨i + 1, p, a', by simpa using h1, by simpa using h2, h3, h4⟩
  | .ro s :: ps, a :: as, h => by
    obtain ⟨i, p, a', h1, h2, h3, h4⟩ := lent_some (ps := ps) (as := as) h
    exact ⟨i + 1, p, a', by simpa using h1, by simpa using h2, h3, h4⟩
  | .mut s :: ps, a :: as, h => by
    simp only [lentOf] at h
    split at h
    · rename_i l' hl
      cases h
      exact ⟨0, _, a, rfl, rfl, rfl, hl⟩
    · cases h
  | .fld s o e :: ps, a :: as, h => by
    simp only [lentOf] at h
    split at h
    · rename_i l' hl
      cases h
      exact ⟨0, _, a, rfl, rfl, rfl, hl⟩
    · cases h
  | .muts s :: ps, a :: as, h => by
    simp only [lentOf] at h
    split at h
    · rename_i l' hl
      cases h
      exact ⟨0, _, a, rfl, rfl, rfl, hl⟩
    · cases h
  | _ :: _, [], h => by simp [lentOf] at h
theorem oneMut_uniq : ∀ {ps : List Par} {i j : Nat} {p q : Par}, oneMut ps = true -> ps[i]? = some p -> ps[j]? = some q -> p.isMut = true -> q.isMut = true -> i = j
  | [], i, j, p, q, _, h1, _, _, _ => by simp at h1
  | a :: t, i, j, p, q, ho, h1, h2, h3, h4 => by
    simp only [oneMut] at ho
    split at ho
    · rename_i ha
      have no : ∀ (n : Nat) (x : Par), t[n]? = some x -> x.isMut = true -> False := by
        intro n x hx hm
        have := List.mem_of_getElem? hx
        simp only [Bool.not_eq_true', List.any_eq_false] at ho
        exact ho x this hm
      cases i with
      | zero =>
        cases j with
        | zero => rfl
        | succ j => exact (no j q (by simpa using h2) h4).elim
      | succ i => exact (no i p (by simpa using h1) h3).elim
    · rename_i ha
      cases i with
      | zero =>
        simp only [List.getElem?_cons_zero, Option.some.injEq] at h1
        subst h1
        rw [h3] at ha
        cases ha
      | succ i =>
        cases j with
        | zero =>
          simp only [List.getElem?_cons_zero, Option.some.injEq] at h2
          subst h2
          rw [h4] at ha
          cases ha
        | succ j => exact congrArg (· + 1) (oneMut_uniq ho (by simpa using h1) (by simpa using h2) h3 h4)
theorem out_none {w' : World} : ∀ {ps : List Par} {vs oc : List Value}, (∀ p ∈ ps, p.isMut = false) -> OutRel w' ps vs oc -> oc = [] /\ outsOf ps = []
  | [], _, _, _, h => ⟨h, rfl⟩
  | .val g s :: ps, v :: vs, oc, hm, h => out_none (ps := ps) (vs := vs) (fun p hp => hm p (List.mem_cons_of_mem _ hp)) h
  | .ro s :: ps, v :: vs, oc, hm, h => out_none (ps := ps) (vs := vs) (fun p hp => hm p (List.mem_cons_of_mem _ hp)) h
  | .mut s :: ps, v :: vs, oc, hm, h => by have := hm _ (List.mem_cons_self); cases this
  | .muts s :: ps, v :: vs, oc, hm, h => by have := hm _ (List.mem_cons_self); cases this
  | .fld s o e :: ps, v :: vs, oc, hm, h => by have := hm _ (List.mem_cons_self); cases this
  | .val .. :: _, [], _, _, h => h.elim
  | .ro .. :: _, [], _, _, h => h.elim
  | .mut .. :: _, [], _, _, h => h.elim
  | .muts .. :: _, [], _, _, h => h.elim
  | .fld .. :: _, [], _, _, h => h.elim
theorem any_false {ps : List Par} (h : (!ps.any Par.isMut) = true) : ∀ p ∈ ps, p.isMut = false := by
  intro p hp
  simp only [Bool.not_eq_true', List.any_eq_false] at h
  have := h p hp
  cases hq : p.isMut with
  | false => rfl
  | true => exact absurd hq this
theorem out_one {w' : World} : ∀ {ps : List Par} {vs oc : List Value} {i : Nat} {p : Par}, oneMut ps = true -> ps[i]? = some p -> p.isMut = true -> OutRel w' ps vs oc -> ∃ v, vs[i]? = some v /\ OutRel w' [p] [v] oc /\ outsOf ps = [p.sh]
  | [], _, _, _, _, _, h1, _, _ => by simp at h1
  | .val g s :: ps, v :: vs, oc, i, p, ho, h1, h2, h => by
    cases i with
    | zero => simp only [List.getElem?_cons_zero, Option.some.injEq] at h1; subst h1; cases h2
    | succ i =>
      obtain ⟨v', e1, e2, e3⟩ := out_one (ps := ps) (vs := vs) ho (by simpa using h1) h2 h
      exact ⟨v', by simpa using e1, e2, e3⟩
  | .ro s :: ps, v :: vs, oc, i, p, ho, h1, h2, h => by
    cases i with
    | zero => simp only [List.getElem?_cons_zero, Option.some.injEq] at h1; subst h1; cases h2
    | succ i =>
      obtain ⟨v', e1, e2, e3⟩ := out_one (ps := ps) (vs := vs) ho (by simpa using h1) h2 h
      exact ⟨v', by simpa using e1, e2, e3⟩
  | .mut s :: ps, v :: vs, oc, i, p, ho, h1, h2, h => by
    have hi : (0 : Nat) = i := oneMut_uniq (ps := .mut s :: ps) ho rfl h1 rfl h2
    subst hi
    simp only [List.getElem?_cons_zero, Option.some.injEq] at h1
    subst h1
    obtain ⟨c1, c2, rfl, o1, o2, o3⟩ := h
    obtain ⟨rfl, e2⟩ := out_none (any_false (by simpa [oneMut, Par.isMut] using ho)) o3
    exact ⟨v, rfl, ⟨c1, [], rfl, o1, o2, rfl⟩, by simp [outsOf, e2]⟩
  | .fld s o e :: ps, v :: vs, oc, i, p, ho, h1, h2, h => by
    have hi : (0 : Nat) = i := oneMut_uniq (ps := .fld s o e :: ps) ho rfl h1 rfl h2
    subst hi
    simp only [List.getElem?_cons_zero, Option.some.injEq] at h1
    subst h1
    obtain ⟨hv, c2, rfl, o1, o3⟩ := h
    obtain ⟨rfl, e2⟩ := out_none (any_false (by simpa [oneMut, Par.isMut] using ho)) o3
    exact ⟨v, rfl, ⟨hv, [], rfl, o1, rfl⟩, by simp [outsOf, e2]⟩
  | .muts s :: ps, v :: vs, oc, i, p, ho, h1, h2, h => by
    have hi : (0 : Nat) = i := oneMut_uniq (ps := .muts s :: ps) ho rfl h1 rfl h2
    subst hi
    simp only [List.getElem?_cons_zero, Option.some.injEq] at h1
    subst h1
    obtain ⟨c2, rfl, o3⟩ := h
    obtain ⟨rfl, e2⟩ := out_none (any_false (by simpa [oneMut, Par.isMut] using ho)) o3
    exact ⟨v, rfl, ⟨[], rfl, rfl⟩, by simp [outsOf, e2]⟩
  | .val .. :: _, [], _, _, _, _, _, _, h => h.elim
  | .ro .. :: _, [], _, _, _, _, _, _, h => h.elim
  | .mut .. :: _, [], _, _, _, _, _, _, h => h.elim
  | .muts .. :: _, [], _, _, _, _, _, _, h => h.elim
  | .fld .. :: _, [], _, _, _, _, _, _, h => h.elim
section
variable {P : Program} {E : Env} {c : Cx} {st : St} {G G' : Gh} {w w' : World} {a : Act} {o : Oper} {K : Act -> World -> Prop} {Q : Exit -> Act -> World -> Prop} {tm : Nat -> Value}
variable {R : Type} {call : E.Call} {k : Eff -> Option R} {r : R} {pl : Plan E}
theorem argAV_rel (h : Rel c st G w (tmOf a)) : ∀ (xs : List Operand) (ts : List Nat), xs.length = ts.length -> AVs c st G w (argAV E st xs ts) (xs.map a.eval)
  | [], [], _ => rfl
  | x :: xs, t :: ts, hl => ⟨_, _, rfl, fun v hv => operandT_rel h hv, argAV_rel h xs ts (by simpa using hl)⟩
  | [], _ :: _, hl => by simp at hl
  | _ :: _, [], hl => by simp at hl
theorem AVs.at {st : St} : ∀ {as : List (Option AV)} {vs : List Value} {i : Nat} {av : Option AV}, AVs c st G w as vs -> as[i]? = some av -> ∃ v, vs[i]? = some v /\ ∀ x, av = some x -> VRel c st.us st.vs G w x v
  | [], _, i, av, _, hi => by simp at hi
  | b :: as, vs, i, av, h, hi => by
    obtain ⟨v, vt, rfl, h1, h2⟩ := h
    cases i with
    | zero => simp only [List.getElem?_cons_zero, Option.some.injEq] at hi; subst hi; exact ⟨v, rfl, h1⟩
    | succ i =>
      obtain ⟨v', e1, e2⟩ := AVs.at h2 (show as[i]? = some av by simpa using hi)
      exact ⟨v', by simpa using e1, e2⟩
theorem AVs.carry {st : St} {us' : List (Nat × UE)} {vs' : List (Nat × List Lf)} (huc : UCompat st.us us' G G w w) (hvc : VCompat st.vs vs' G G) : ∀ {as : List (Option AV)} {vs : List Value}, AVs c st G w as vs -> AVs c ⟨st.sl, vs', us'⟩ G w as vs
  | [], _, h => h
  | _ :: _, _, ⟨v, vt, e, h1, h2⟩ => ⟨v, vt, e, fun x hx => (h1 x hx).carry huc hvc, AVs.carry huc hvc h2⟩
theorem tup_rel {us : List (Nat × UE)} : ∀ {rs : List (Bool × Sh)} {q cs : List Value} {ls : List Lf}, TupCells rs q cs -> LsRel c us G w ls cs -> TupRel c us G w (splitRs rs ls) q
  | [], q, cs, ls, h, hl => by obtain ⟨rfl, _⟩ := h; exact trivial
  | (g, s) :: t, q, cs, ls, h, hl => by
    obtain ⟨v, q', c1, c2, rfl, rfl, h1, h2, h3⟩ := h
    refine ⟨?_, tup_rel h3 ?_⟩
    · have := LsRel.take s.n hl
      rw [List.take_left' h1] at this
      cases g with
      | true => exact ⟨c1, h2, this⟩
      | false =>
        have h2 : c1 = [v] := h2
        subst h2
        exact this
    · have := LsRel.drop s.n hl
      rwa [List.drop_left' h1] at this
theorem res_rel {us : List (Nat × UE)} {vs : List (Nat × List Lf)} {rs : List (Bool × Sh)} {v : Value} {rc : List Value} {ls : List Lf} (hv : ValRel rs v rc) (hl : LsRel c us G w ls rc) : VRel c us vs G w (resAV rs ls) v := by
  unfold ValRel at hv
  unfold resAV
  split at hv
  · rename_i g s
    cases g with
    | true => exact ⟨rc, hv, hl⟩
    | false =>
      have hv : rc = [v] := hv
      subst hv
      exact hl
  · obtain ⟨q, rfl, hq⟩ := hv
    rename_i hne
    cases rs with
    | nil => exact ⟨q, rfl, tup_rel hq hl⟩
    | cons p t =>
      cases t with
      | nil => exact absurd rfl (hne p.1 p.2)
      | cons p2 t2 => exact ⟨q, rfl, tup_rel hq hl⟩
theorem run_enter {f : Nat} {fn : Func} (hf : P.funcs[f]? = some fn) (hn : fn.name ≠ "runtime.NumGoroutine") (hb : fn.body.isSome = true) (args : Array Value) : (callFunc f args).run P w = .ok (.enter f args) w := by
  have : fn.body ≠ none := by cases h : fn.body <;> simp_all
  simp [callFunc, hf, hn, this]
end
end Go.Proofs.YtaflceohlijekaaGreat.Ev
namespace Go.Proofs.YtaflceohlijekaaGreat.Ev
section
variable {P : Program} {E : Env} {c : Cx} {st : St} {G G' : Gh} {w w' : World} {a : Act} {o : Oper} {K : Act -> World -> Prop} {Q : Exit -> Act -> World -> Prop} {tm : Nat -> Value}
variable {R : Type} {call : E.Call} {k : Eff -> Option R} {r : R} {pl : Plan E}
theorem callFn_split (f : Nat) (z : (E.sig f).R.T) {lr : List Lf} {lo : List Lf} (h : flat (E.sig f).R z = lr ++ lo) (hn : lr.length = nRes (E.sig f).rs) : (flat (E.sig f).R z).take (nRes (E.sig f).rs) = lr /\ (flat (E.sig f).R z).drop (nRes (E.sig f).rs) = lo := by
  rw [h]
  exact ⟨List.take_left' hn, List.drop_left' hn⟩
theorem flat_cast {s t : Sh} (h : s = t) (z : s.T) : ∃ z' : t.T, flat s z = flat t z' := by
  subst h
  exact ⟨z, rfl⟩
theorem snd_call (h : Rel c st G w (tmOf a)) (hd : ∀ d, o.dst = some d -> d < a.tmps.size /\ c.pin d = none) (hk : ∀ e, k e = some r -> After c a K (e.apply o.dst st))
    {cl : Call} {f : Nat} (hop : o.op = .call cl) (hcl : cl.callee = .value (.func f)) {fn : Func} (hf : P.funcs[f]? = some fn) (hn : fn.name ≠ "runtime.NumGoroutine") (hb : fn.body.isSome = true) (hsz : cl.args.toList.length = cl.argTypes.toList.length)
    (hspec : ∀ f x r, call f x = some r -> FnSpec P E f x r) (hp : pre E o st = some pl) (hr : runPlan E call k pl = some r) : o.wp P a w K Q := by
  cases hdst : o.dst with
  | none => simp [pre, hop, hcl, hdst] at hp
  | some d =>
  simp only [pre, hop, hcl, hdst, preCall] at hp
  split at hp
  · rename_i lent hone hlent
    split at hp
    · rename_i ls hca
      split at hp
      · rename_i x hun
        cases hp
        simp only [runPlan] at hr
        split at hr
        · rename_i z hz
          have hspec := hspec f x z hz
          have hrun : (execOp a.eval o).run P w = .ok (.enter f (cl.args.toList.map a.eval).toArray) w := by
            have := run_enter (w := w) hf hn hb (cl.args.toList.map a.eval).toArray
            have hm : cl.args.map a.eval = (cl.args.toList.map a.eval).toArray := by rw [<- Array.toList_map]
            simp only [execOp, hop, resolve, hcl, Sem.run_bind, Sem.run_pure, Result.andThen_ok, hm]
            simpa [Deferred.ofValue, Act.eval, invoke] using this
          unfold Oper.wp
          rw [hrun, Oper.upon_enter]
          have hav := argAV_rel (E := E) h cl.args.toList cl.argTypes.toList hsz
          cases lent with
          | none =>
            have hl0 : LockOk st [] [] := ⟨fun _ _ q => (by cases q), fun _ _ q => (by cases q)⟩
            have hnm := lent_none hlent
            have hargs := args_rel (h.lock hl0) (c1 := ⟨w, fun _ => False, fun _ _ => False, fun _ => none⟩) (h.okIn hl0 (F := fun _ => False) (C := fun _ _ => False) (fun _ q => q.elim) (fun _ _ q => q.elim)) _ _ _ _ _ (by simpa using hav) hca hun (fun p hp hm => by rw [hnm p hp] at hm; cases hm)
            refine (hspec _ _ hargs).mono fun e w' hpost => ?_
            cases e with
            | returned v =>
              obtain ⟨rc, oc, F', p1, p2, p3, p4, p5, p6⟩ := hpost
              obtain ⟨rfl, hout⟩ := out_none hnm p4
              rw [List.append_nil] at p5
              have hall : (flat (E.sig f).R z).take (nRes (E.sig f).rs) = flat (E.sig f).R z := List.take_of_length_le (by rw [<- p5.length, p3]; exact Nat.le_refl _)
              dsimp only at hr
              rw [hall] at hr
              split at hr
              · rename_i e he
                split at he
                · rename_i hfr heq
                  cases he
                  obtain ⟨G', h1, h2⟩ := h.called hl0 (F := fun _ => False) (C := fun _ _ => False) (Fo := fun _ => False) (nv := []) (nu := []) (uv := fun _ => .bool true) (uf := fun _ _ => False) (d0 := 64 * d) (fun _ q => q.elim) (fun _ _ q => q.elim) p1 p5 p6 (fun _ q => q.elim) (fun _ _ q => q) (freshU_none hfr)
                    ⟨fun _ _ h => (by cases h), fun _ _ h => absurd rfl h, fun _ _ h => absurd rfl h, fun _ h => absurd rfl h, fun _ _ h => (by cases h), fun _ h => absurd rfl h⟩ (fun _ h => absurd rfl h)
                  rw [List.append_nil, List.nil_append] at h1 h2
                  exact hk _ hr G' _ w' (put_rel (e := ⟨resAV (E.sig f).rs (ownify (flat (E.sig f).R z) (64 * d)).1, [], (ownify (flat (E.sig f).R z) (64 * d)).2⟩) h1 (res_rel p2 h2) hd) (put_keeps _ _ _).1 (put_keeps _ _ _).2
                · rename_i heq
                  cases heq
                · cases he
              · cases hr
            | panicked _ => exact hpost.elim
            | outgrown => exact hpost.elim
          | some l =>
            obtain ⟨i, p, av, i1, i2, i3, i4⟩ := lent_some hlent
            obtain ⟨v0, i5, i6⟩ := hav.at i2
            obtain ⟨y, F, C, hl⟩ := lend_ok h i6 i4
            have hlk := h.lock hl.lock
            have hokin := h.okIn hl.lock hl.foot hl.cells
            have huc : UCompat st.us (l.lock ++ st.us) G G w w := by
              intro k' en hen
              rw [getA_append]
              cases hq : getA l.lock k' with
              | none => exact ⟨en, hen, fun ep' e' xs' he => ⟨ep', xs', he, rfl, Nat.le_refl _, fun _ => ⟨rfl, fun _ _ _ _ q => q⟩⟩⟩
              | some en2 => exact ⟨en2, rfl, fun ep' e' xs' he => by rw [(hl.lock.gone k' _ hq).1] at he; cases he⟩
            have hvc : VCompat st.vs (l.lockV ++ st.vs) G G := by
              intro r' ls' hr'
              rw [getA_append]
              cases hq : getA l.lockV r' with
              | none => exact ⟨ls', hr', rfl⟩
              | some l2 => exact ⟨l2, rfl, rfl⟩
            have hargs := args_rel hlk hokin _ _ _ _ _ (hav.carry huc hvc) hca hun (fun p' hp' hm j v' hj hv' => by
              have hij : i = j := oneMut_uniq hone i1 hj i3 hm
              subst hij
              rw [i1] at hj
              cases hj
              rw [i5] at hv'
              cases hv'
              exact ⟨y, hl.ls, hl.arg⟩)
            refine (hspec _ _ hargs).mono fun e w' hpost => ?_
            cases e with
            | returned v =>
              obtain ⟨rc, oc, F', p1, p2, p3, p4, p5, p6⟩ := hpost
              obtain ⟨v1, o1, o2, o3⟩ := out_one hone i1 i3 p4
              rw [i5] at o1
              cases o1
              obtain ⟨lr, yo, q1, q2⟩ : ∃ lr, ∃ (yo : p.sh.T), flat (E.sig f).R z = lr ++ flat p.sh yo /\ lr.length = nRes (E.sig f).rs := by
                obtain ⟨z', hz'⟩ := flat_cast (show (E.sig f).R = prod (resOf (E.sig f).rs ++ [p.sh]) by simp only [Sig.R, o3]) z
                obtain ⟨l1, y', e1, e2⟩ := flat_snoc p.sh (resOf (E.sig f).rs) z'
                exact ⟨l1, y', hz'.trans e1, by rw [e2, nRes_sum]⟩
              obtain ⟨t1, t2⟩ := callFn_split (E := E) f z q1 q2
              rw [q1] at p5
              obtain ⟨va, vb, Fr, Fo, s1, s2, s3, s4, s5⟩ := p5.split
              have hva : va = rc /\ vb = oc := by
                have l1 : va.length = rc.length := by rw [s2.length, q2, p3]
                exact ⟨(List.append_inj s1 l1.symm).1.symm, (List.append_inj s1 l1.symm).2.symm⟩
              obtain ⟨rfl, rfl⟩ := hva
              dsimp only at hr
              rw [t1, t2] at hr
              split at hr
              · rename_i e he
                split at he
                · rename_i heq
                  cases heq
                · rename_i l' hfr heq
                  cases heq
                  split at he
                  · rename_i nv nu hback
                    cases hfu : freshU (ownify lr (64 * d)).2 nu with
                    | false => rw [hfu] at he; cases he
                    | true =>
                      rw [hfu] at he
                      cases he
                      obtain ⟨uv, uf, hb2⟩ := hl.back w' vb yo Fo nv nu _ p1 s3 (fun b hb => p6 b ((s5 b).2 (.inr hb))) o2 hback
                      obtain ⟨G', h1, h2⟩ := h.called hl.lock hl.foot hl.cells p1 s2 (fun b hb => p6 b ((s5 b).2 (.inl hb))) (fun b hb => p6 b ((s5 b).2 (.inr hb))) s4 (freshU_none hfr) hb2 (freshU_none hfu)
                      exact hk _ hr G' _ w' (put_rel (e := ⟨resAV (E.sig f).rs (ownify lr (64 * d)).1, nv, nu ++ ((ownify lr (64 * d)).2 ++ l.lock)⟩) h1 (res_rel p2 h2) hd) (put_keeps _ _ _).1 (put_keeps _ _ _).2
                  · cases he
                · cases he
              · cases hr
            | panicked _ => exact hpost.elim
            | outgrown => exact hpost.elim
        · cases hr
      · cases hp
    · cases hp
  · cases hp
end
end Go.Proofs.YtaflceohlijekaaGreat.Ev
namespace Go.Proofs.YtaflceohlijekaaGreat.Ev
section
variable (P : Program) (E : Env) (tk : Nat -> Bool)
def elemOk (t : Nat) : Bool := match (E.ty t).d with | .slice e => tk e | .array _ e => tk e | _ => true
def TyI.isInt (ti : TyI) : Bool := match ti.d, ti.sh with | .scalar, .int _ => true | _, _ => false
def callOk (o : Oper) (c : Call) : Bool :=
  match c.callee with
  | .builtin .len => c.argTypes.toList.all tk
  | .builtin .append => (match c.argTypes.toList with
    | [t1, t2] => tk t1 && tk t2 && tk o.type && (E.ty t2).isSlice && (match (E.ty t1).d, (E.ty o.type).d with | .slice e1, .slice e2 => e1 == e2 && tk e1 | _, _ => false)
    | _ => false)
  | .builtin .copy => c.argTypes.toList.all (fun t => tk t && elemOk E tk t)
  | .value (.func f) => (match P.funcs[f]? with | some fn => fn.name != "runtime.NumGoroutine" && fn.body.isSome | none => false) && (c.args.toList.length == c.argTypes.toList.length)
  | _ => true
def opOk (o : Oper) : Bool :=
  match o.op with
  | .alloc t => tk t
  | .fieldAddr t _ _ => tk t
  | .load t _ => tk t
  | .store t _ _ => tk t
  | .binOp _ t _ _ _ => tk t && (!(E.ty t).agg || eqCheck P E t)
  | .indexAddr t _ _ => tk t && elemOk E tk t
  | .index t _ _ => tk t && (E.ty t).isStr
  | .slice t _ _ _ _ => tk t && elemOk E tk t && (match (E.ty t).d with | .scalar => (E.ty t).isStr | _ => true)
  | .build t _ => tk t
  | .buildSlice t _ _ => tk t && elemOk E tk t
  | .makeSlice t _ _ => tk t && elemOk E tk t
  | .convert s t _ => tk s && tk t && (E.ty s).isInt && (E.ty t).isInt
  | .call c => callOk P E tk o c
  | _ => true
end
section
variable {P : Program} {E : Env} {tk : Nat -> Bool} {c : Cx} {st : St} {G G' : Gh} {w w' : World} {a : Act} {o : Oper} {K : Act -> World -> Prop} {Q : Exit -> Act -> World -> Prop} {tm : Nat -> Value}
variable {R : Type} {call : E.Call} {k : Eff -> Option R} {r : R} {pl : Plan E}
theorem elemOk_slice (htk : ∀ t, tk t = true -> TyOk P E t) {t : Nat} (h : elemOk E tk t = true) : ∀ e, (E.ty t).d = .slice e \/ (∃ n, (E.ty t).d = .array n e) -> TyOk P E e := by
  intro e he
  unfold elemOk at h
  rcases he with he | ⟨n, he⟩ <;> rw [he] at h <;> exact htk e h
theorem isInt_und (htk : ∀ t, tk t = true -> TyOk P E t) {t : Nat} (ht : tk t = true) (h : (E.ty t).isInt = true) : (E.ty t).d = .scalar /\ (∃ kk, P.underlying t = some (.int kk)) /\ ∃ kk, (E.ty t).sh = .int kk := by
  unfold TyI.isInt at h
  split at h
  · rename_i kk h1 h2
    obtain ⟨d, u1, u2, _⟩ := (htk t ht).scalar h1
    refine ⟨h1, ?_, kk, h2⟩
    rcases u2 with ⟨_, q⟩ | ⟨k3, rfl, q⟩ | ⟨_, q⟩
    · rw [h2] at q; cases q
    · exact ⟨k3, u1⟩
    · rw [h2] at q; cases q
  · cases h
theorem op_sound (htk : ∀ t, tk t = true -> TyOk P E t) (hck : opOk P E tk o = true) (h : Rel c st G w (tmOf a)) (hd : ∀ d, o.dst = some d -> d < a.tmps.size /\ c.pin d = none) (hk : ∀ e, k e = some r -> After c a K (e.apply o.dst st))
    (hspec : ∀ f x r, call f x = some r -> FnSpec P E f x r) (hp : pre E o st = some pl) (hr : runPlan E call k pl = some r) : o.wp P a w K Q := by
  cases hop : o.op with
  | move x => exact snd_move h hd hk (.inl hop) hp hr
  | assign x => exact snd_move h hd hk (.inr hop) hp hr
  | pick x y z => exact snd_pick h hd hk hop hp hr
  | alloc t =>
    simp only [opOk, hop] at hck
    exact snd_alloc h hd hk hop (htk t hck) hp hr
  | box t x => exact snd_box h hd hk hop hp hr
  | build t ps =>
    simp only [opOk, hop] at hck
    exact snd_build h hd hk hop (htk t hck) hp hr
  | buildSlice t n ps =>
    simp only [opOk, hop, Bool.and_eq_true] at hck
    exact snd_buildSlice h hd hk hop (htk t hck.1) (fun e he => elemOk_slice htk hck.2 e (.inl he)) hp hr
  | load t x =>
    simp only [opOk, hop] at hck
    exact snd_load h hd hk hop (htk t hck) hp hr
  | store t x y =>
    simp only [opOk, hop] at hck
    exact snd_store h hd hk hop (htk t hck) hp hr
  | nilCheck x => exact snd_nilCheck h hd hk hop hp hr
  | binOp op t x y t' =>
    simp only [opOk, hop, Bool.and_eq_true, Bool.or_eq_true, Bool.not_eq_true'] at hck
    have hq : (E.ty t).agg = true -> eqCheck P E t = true := fun q => hck.2.resolve_left (by rw [q]; exact fun e => by cases e)
    exact snd_binOp h hd hk hop (htk t hck.1) hq hp hr
  | unOp op t x => exact snd_unOp h hd hk hop hp hr
  | convert s t x =>
    simp only [opOk, hop, Bool.and_eq_true] at hck
    obtain ⟨⟨⟨h1, h2⟩, h3⟩, h4⟩ := hck
    exact snd_convInt h hd hk hop (htk t h2) (isInt_und htk h2 h4).1 (isInt_und htk h1 h3).2.1 (isInt_und htk h2 h4).2.2 hp hr
  | makeSlice t x y =>
    simp only [opOk, hop, Bool.and_eq_true] at hck
    exact snd_makeSlice h hd hk hop (htk t hck.1) (fun e he => elemOk_slice htk hck.2 e (.inl he)) hp hr
  | slice t x lo hi mx =>
    simp only [opOk, hop, Bool.and_eq_true] at hck
    exact snd_slice h hd hk hop (htk t hck.1.1) (fun hs => by have := hck.2; rw [hs] at this; exact this) (fun e he => elemOk_slice htk hck.1.2 e (.inl he)) hp hr
  | fieldAddr t x i =>
    simp only [opOk, hop] at hck
    exact snd_fieldAddr h hd hk hop (htk t hck) hp hr
  | indexAddr t x i =>
    simp only [opOk, hop, Bool.and_eq_true] at hck
    exact snd_indexAddr h hd hk hop (htk t hck.1) (elemOk_slice htk hck.2) hp hr
  | index t x i =>
    simp only [opOk, hop, Bool.and_eq_true] at hck
    exact snd_index h hd hk hop ((htk t hck.1).isStr hck.2) hp hr
  | extract x i => exact snd_extract h hd hk hop hp hr
  | call cl =>
    simp only [opOk, hop, callOk] at hck
    cases hcl : cl.callee with
    | builtin b =>
      rw [hcl] at hck
      cases b with
      | len =>
        simp only [List.all_eq_true] at hck
        exact snd_len h hd hk hop hcl (fun t ht => htk t (hck t ht)) hp hr
      | append =>
        simp only at hck
        split at hck
        · rename_i t1 t2 hts
          simp only [Bool.and_eq_true] at hck
          obtain ⟨⟨⟨⟨h1, h2⟩, h3⟩, h4⟩, h5⟩ := hck
          split at h5
          · rename_i e1 e2 d1 d2
            simp only [Bool.and_eq_true, beq_iff_eq] at h5
            obtain ⟨rfl, h6⟩ := h5
            obtain ⟨e', he', _⟩ := (htk t2 h2).isSlice h4
            exact snd_append h hd hk hop hcl hts ((htk t1 h1).slice d1).1 ⟨e', he'⟩ d2 (htk e1 h6) hp hr
          · cases h5
        · cases hck
      | min => exact snd_minmax h hd hk hop (.inl hcl) hp hr
      | max => exact snd_minmax h hd hk hop (.inr hcl) hp hr
      | copy =>
        simp only [List.all_eq_true, Bool.and_eq_true] at hck
        exact snd_copy h hd hk hop hcl (fun t ht => htk t (hck t ht).1) (fun t ht e he => elemOk_slice htk (hck t ht).2 e (.inl he)) hp hr
      | _ => simp [pre, hop, hcl] at hp
    | value v =>
      cases v with
      | func f =>
        rw [hcl] at hck
        simp only [Bool.and_eq_true, beq_iff_eq] at hck
        obtain ⟨h1, h2⟩ := hck
        split at h1
        · rename_i fn hfn
          simp only [Bool.and_eq_true, bne_iff_ne, ne_eq] at h1
          exact snd_call h hd hk hop hcl hfn h1.1 h1.2 h2 hspec hp hr
        · cases h1
      | _ => simp [pre, hop, hcl] at hp
    | _ => simp [pre, hop, hcl] at hp
  | _ => simp [pre, hop] at hp
end
end Go.Proofs.YtaflceohlijekaaGreat.Ev
namespace Go.Proofs.YtaflceohlijekaaGreat.Ev
def opsOk (P : Program) (E : Env) (tk : Nat -> Bool) (np : Nat -> Bool) (n : Nat) (ops : List Oper) : Bool :=
  ops.all fun o => opOk P E tk o && (match o.dst with | some d => Nat.blt d n && !np d | none => true)
section
variable {P : Program} {E : Env} {tk : Nat -> Bool} {c : Cx} {st : St} {G G' : Gh} {w w' : World} {a : Act} {o : Oper} {K : Act -> World -> Prop} {Q : Exit -> Act -> World -> Prop} {tm : Nat -> Value}
variable {R : Type} {call : E.Call} {k : St -> Option R} {r : R} {pl : Plan E}
theorem Rel.reslot (h : Rel c st G w tm) {g : Nat} {x : AV} (hx : VRel c st.us st.vs G w x (tm g)) : Rel c { st with sl := (g, x) :: st.sl } G w tm :=
  { h with
    slot := fun t y hy => by
      simp only [getA_cons] at hy
      split at hy
      · rename_i e
        subst e
        cases hy
        exact hx
      · exact h.slot t y hy }
theorem yielded_of {ops : List Oper} {j : Nat} {p : Oper} {d : Nat} {b : Bool} (hj : ops[j]? = some p) (hd : p.dst = some d) (hb : tmOf a d = .bool b) : yielded ops.toArray a.tmps j = some b := by
  unfold tmOf at hb
  rw [Array.getD_eq_getD_getElem?] at hb
  unfold yielded
  simp only [List.getElem?_toArray, hj, Option.bind_some, hd]
  cases hq : a.tmps[d]? with
  | none => rw [hq] at hb; simp [undef] at hb
  | some v => rw [hq] at hb; simp only [Option.getD_some] at hb; subst hb; rfl
theorem yielded_undef {ops : List Oper} {j : Nat} {p : Oper} {d : Nat} (hj : ops[j]? = some p) (hd : p.dst = some d) (hb : tmOf a d = undef) : yielded ops.toArray a.tmps j = none := by
  unfold tmOf at hb
  rw [Array.getD_eq_getD_getElem?] at hb
  unfold yielded
  simp only [List.getElem?_toArray, hj, Option.bind_some, hd]
  cases hq : a.tmps[d]? with
  | none => rfl
  | some v => rw [hq] at hb; simp only [Option.getD_some] at hb; subst hb; rfl
theorem guardSlot_some {all : List Oper} {o : Oper} {g : Nat} {want : Bool} (h : guardSlot all o = some (some (g, want))) : ∃ j p, o.guard = some (j, want) /\ all[j]? = some p /\ p.dst = some g := by
  unfold guardSlot at h
  split at h
  · cases h
  · rename_i j w hg
    split at h
    · rename_i p hp
      split at h
      · rename_i d hd
        cases h
        exact ⟨j, p, hg, hp, hd⟩
      · cases h
    · cases h
theorem guardSlot_none {all : List Oper} {o : Oper} (h : guardSlot all o = some none) : o.guard = none := by
  unfold guardSlot at h
  split at h
  · assumption
  · split at h
    · split at h <;> cases h
    · cases h
def Then (c : Cx) (a : Act) (K : Act -> World -> Prop) (k : St -> Option R) (r : R) : Prop :=
  ∀ st' G' a' w', k st' = some r -> Rel c st' G' w' (tmOf a') -> a'.defers = a.defers -> a'.tmps.size = a.tmps.size -> K a' w'
theorem evOps_sound (htk : ∀ t, tk t = true -> TyOk P E t) (hspec : ∀ f x r, call f x = some r -> FnSpec P E f x r) {np : Nat -> Bool} (hnp : ∀ d, np d = false -> c.pin d = none) (all : List Oper) : ∀ (ops : List Oper) (st : St) (G : Gh) (w : World) (a : Act), opsOk P E tk np a.tmps.size ops = true -> Rel c st G w (tmOf a) ->
    evOps E call all ops st k = some r -> Then c a (Q .normal) k r -> wpList P all.toArray Q ops a w
  | [], st, G, w, a, hok, h, he, hk => hk st G a w he h rfl rfl
  | o :: rest, st, G, w, a, hok, h, he, hk => by
    simp only [opsOk, List.all_cons, Bool.and_eq_true] at hok
    obtain ⟨⟨ho1, ho2⟩, ho3⟩ := hok
    have hd : ∀ d, o.dst = some d -> d < a.tmps.size /\ c.pin d = none := fun d hd => by
      rw [hd] at ho2
      simp only [Bool.and_eq_true] at ho2
      exact ⟨blt_true ho2.1, hnp d (by simpa using ho2.2)⟩
    have hrest : ∀ (st' : St) (G' : Gh) (a' : Act) (w' : World), evOps E call all rest st' k = some r -> Rel c st' G' w' (tmOf a') -> a'.defers = a.defers -> a'.tmps.size = a.tmps.size -> wpList P all.toArray Q rest a' w' := by
      intro st' G' a' w' he' h' hdf hsz
      exact evOps_sound htk hspec hnp all rest st' G' w' a' (by rw [hsz]; exact ho3) h' he' (fun st2 G2 a2 w2 e1 e2 e3 e4 => hk st2 G2 a2 w2 e1 e2 (e3.trans hdf) (e4.trans hsz))
    have hgo : ∀ st1 : St, Rel c st1 G w (tmOf a) -> (match pre E o st1 with | some p => runPlan E call (fun e => evOps E call all rest (e.apply o.dst st1) k) p | none => none) = some r -> o.wp P a w (wpList P all.toArray Q rest) Q := by
      intro st1 h1 he1
      split at he1
      · rename_i p hp
        exact op_sound htk ho1 h1 hd (fun e he2 G' a' w' h' hdf hsz => hrest _ G' a' w' he2 h' hdf hsz) hspec hp he1
      · cases he1
    have hskip : ∀ st1 : St, Rel c st1 G w (tmOf a) -> evOps E call all rest (Eff.apply ⟨.no, [], []⟩ o.dst st1) k = some r -> wpList P all.toArray Q rest (a.put o.dst undef) w := by
      intro st1 h1 he1
      exact hrest _ G _ w he1 (put_rel (e := ⟨.no, [], []⟩) h1 rfl hd) (put_keeps _ _ _).1 (put_keeps _ _ _).2
    simp only [evOps] at he
    unfold wpList
    split at he
    · cases he
    · rename_i hg
      have hg := guardSlot_none hg
      rw [if_pos (by simp [Region.wanted, hg])]
      exact .inl (hgo st h he)
    · rename_i g want hg
      obtain ⟨j, p, g1, g2, g3⟩ := guardSlot_some hg
      split at he
      · rename_i b hb
        have htm : tmOf a g = .bool b := v_bool (h.slot g _ hb)
        have hy := yielded_of (a := a) g2 g3 htm
        have hw : Region.wanted o (yielded all.toArray a.tmps) = (b == want) := by
          simp only [Region.wanted, g1, hy]
          cases b <;> cases want <;> rfl
        rw [hw]
        have h1 : Rel c { st with sl := (g, .v false [.bool b]) :: st.sl } G w (tmOf a) := h.reslot (by rw [htm]; exact mk_bool b)
        cases b <;> cases want
        · exact .inl (hgo _ h1 he)
        · exact hskip _ h1 he
        · exact hskip _ h1 he
        · exact .inl (hgo _ h1 he)
      · rename_i hb
        have htm : tmOf a g = undef := h.slot g _ hb
        have hy := yielded_undef (a := a) g2 g3 htm
        have hw : Region.wanted o (yielded all.toArray a.tmps) = false := by
          simp only [Region.wanted, g1, hy]
          rfl
        rw [hw]
        exact hskip _ (h.reslot (g := g) (x := .no) (show VRel c st.us st.vs G w .no (tmOf a g) from htm)) he
      · cases he
end
end Go.Proofs.YtaflceohlijekaaGreat.Ev
namespace Go.Proofs.YtaflceohlijekaaGreat.Ev
section
variable {P : Program} {E : Env} {tk : Nat -> Bool} {c : Cx} {st : St} {G G' : Gh} {w w' : World} {a : Act} {o : Oper} {K : Act -> World -> Prop} {Q : Exit -> Act -> World -> Prop} {tm : Nat -> Value}
variable {R : Type} {call : E.Call} {k : St -> Option R} {r : R} {pl : Plan E}
def EffQuiet (st : St) (e : Eff) : Prop := e.nv = [] /\ ∀ i, getA e.nu i ≠ none -> getA st.us i = none
def PlanQuiet (st : St) : Plan E -> Prop
  | .alts l => ∀ q ∈ l, EffQuiet st q.2
  | .call f x mk => ∀ r e, mk r = some e -> EffQuiet st e
theorem quiet_v (st : St) (v : AV) : EffQuiet st ⟨v, [], []⟩ := ⟨rfl, fun _ h => absurd rfl h⟩
theorem quiet_one {st : St} {b : Bool} {v : AV} {p : Plan E} (h : some (Plan.alts [(b, ⟨v, [], []⟩)]) = some p) : PlanQuiet st p := by
  cases h
  intro q hq
  simp only [List.mem_singleton] at hq
  subst hq
  exact quiet_v st v
theorem quiet_new {st : St} {b : Bool} {v : AV} {i : Nat} {en : UE} {p : Plan E} (hn : getA st.us i = none) (h : some (Plan.alts [(b, ⟨v, [], [(i, en)]⟩)]) = some p) : PlanQuiet st p := by
  cases h
  intro q hq
  simp only [List.mem_singleton] at hq
  subst hq
  refine ⟨rfl, fun j hj => ?_⟩
  simp only [getA_cons] at hj
  split at hj
  · rename_i e; rw [<- e]; exact hn
  · exact absurd rfl hj
theorem quiet_arr {st : St} {p : Ptr} {j : Int} {sz : Nat} : ∀ (n i : Nat), ∀ q ∈ arrAlts p j sz n i, EffQuiet st q.2
  | 0, _, q, hq => by cases hq
  | n + 1, i, q, hq => by
    simp only [arrAlts] at hq
    cases hq with
    | head => exact quiet_v st _
    | tail _ hq => exact quiet_arr n (i + 1) q hq
theorem outs_mut : ∀ {ps : List Par} {i : Nat} {p : Par}, outsOf ps = [] -> ps[i]? = some p -> p.isMut = true -> False
  | [], i, p, _, h, _ => by simp at h
  | q :: t, i, p, ho, h, hm => by
    simp only [outsOf, List.append_eq_nil_iff] at ho
    cases i with
    | zero =>
      simp only [List.getElem?_cons_zero, Option.some.injEq] at h
      subst h
      cases q <;> simp [Par.isMut, Par.out] at hm ho
    | succ i => exact outs_mut ho.2 (by simpa using h) hm
theorem pre_quiet (hq : opQuiet o.op = true) (hc : quietCall E o.op = true) (hp : pre E o st = some pl) : PlanQuiet st pl := by
  cases hop : o.op with
  | move x => simp only [pre, hop, preMove] at hp; split at hp <;> first | exact quiet_one hp | cases hp
  | assign x => simp only [pre, hop, preMove] at hp; split at hp <;> first | exact quiet_one hp | cases hp
  | pick x y z =>
    simp only [pre, hop] at hp
    split at hp
    · split at hp <;> first | exact quiet_one hp | cases hp
    · split at hp <;> first | exact quiet_one hp | cases hp
    · cases hp
  | alloc t => rw [hop] at hq; cases hq
  | box t x => rw [hop] at hq; cases hq
  | store t x y => rw [hop] at hq; cases hq
  | buildSlice t n ps => rw [hop] at hq; cases hq
  | build t ps =>
    simp only [pre, hop, preBuild] at hp
    split at hp
    · rename_i fs _
      cases hb : (ps.toList.all (fun q => Nat.blt q.1 fs.length) && nodupB (ps.toList.map (·.1))) with
      | false => rw [hb] at hp; cases hp
      | true =>
        rw [hb] at hp
        simp only [cond_true] at hp
        split at hp <;> first | exact quiet_one hp | cases hp
    · cases hp
  | load t x =>
    simp only [pre, hop, preLoad] at hp
    split at hp
    · split at hp <;> first | exact quiet_one hp | cases hp
    · cases hp
  | nilCheck x =>
    simp only [pre, hop] at hp
    split at hp
    · split at hp <;> first | exact quiet_one hp | cases hp
    · cases hp
  | binOp op t x y t' =>
    simp only [pre, hop] at hp
    split at hp
    · split at hp <;> first | exact quiet_one hp | cases hp
    · cases hp
  | unOp op t x => simp only [pre, hop] at hp; split at hp <;> first | exact quiet_one hp | cases hp
  | convert s t x =>
    cases hdst : o.dst with
    | none => simp [pre, hop, hdst] at hp
    | some d =>
      simp only [pre, hop, hdst, preConvert] at hp
      split at hp
      · exact quiet_one hp
      · split at hp
        · rename_i hn; exact quiet_new hn hp
        · cases hp
      · split at hp <;> first | exact quiet_one hp | cases hp
      · cases hp
  | makeSlice t x y =>
    cases hdst : o.dst with
    | none => simp [pre, hop, hdst] at hp
    | some d =>
      simp only [pre, hop, hdst, preMakeSlice] at hp
      split at hp
      · rename_i hn; exact quiet_new hn hp
      · cases hp
  | slice t x lo hi mx =>
    simp only [pre, hop, preSlice] at hp
    split at hp
    · split at hp <;> first | exact quiet_one hp | cases hp
    · split at hp
      · split at hp <;> first | exact quiet_one hp | cases hp
      · cases hp
    · split at hp
      · split at hp
        · split at hp <;> first | exact quiet_one hp | cases hp
        · cases hp
      · cases hp
    · split at hp
      · split at hp
        · split at hp <;> first | exact quiet_one hp | cases hp
        · cases hp
      · cases hp
    · cases hp
  | fieldAddr t x i =>
    simp only [pre, hop] at hp
    split at hp
    · split at hp <;> first | exact quiet_one hp | cases hp
    · cases hp
  | indexAddr t x i =>
    simp only [pre, hop, preIndexAddr] at hp
    split at hp
    · split at hp <;> first | exact quiet_one hp | cases hp
    · split at hp
      · split at hp <;> first | exact quiet_one hp | cases hp
      · cases hp
    · split at hp
      · split at hp <;> first | exact quiet_one hp | cases hp
      · cases hp
    · split at hp
      · cases hp; exact quiet_arr _ _
      · cases hp
    · cases hp
  | index t x i => simp only [pre, hop, preIndex] at hp; split at hp <;> first | exact quiet_one hp | cases hp
  | extract x i =>
    simp only [pre, hop] at hp
    split at hp
    · split at hp <;> first | exact quiet_one hp | cases hp
    · cases hp
  | call cl =>
    cases hcl : cl.callee with
    | builtin b =>
      cases b with
      | len =>
        simp only [pre, hop, hcl] at hp
        split at hp
        · split at hp
          · split at hp <;> first | exact quiet_one hp | cases hp
          · cases hp
        · cases hp
      | append => obtain ⟨ce, ar, at'⟩ := cl; simp only at hcl; subst hcl; rw [hop] at hq; cases hq
      | copy => obtain ⟨ce, ar, at'⟩ := cl; simp only at hcl; subst hcl; rw [hop] at hq; cases hq
      | min =>
        simp only [pre, hop, hcl, preMinMax] at hp
        split at hp
        · split at hp
          · split at hp <;> first | exact quiet_one hp | cases hp
          · cases hp
        · cases hp
      | max =>
        simp only [pre, hop, hcl, preMinMax] at hp
        split at hp
        · split at hp
          · split at hp <;> first | exact quiet_one hp | cases hp
          · cases hp
        · cases hp
      | _ => simp [pre, hop, hcl] at hp
    | value v =>
      cases v with
      | func f =>
        have hout : outsOf (E.sig f).ps = [] := by
          obtain ⟨ce, ar, at'⟩ := cl
          simp only at hcl
          subst hcl
          rw [hop] at hc
          simpa [quietCall] using hc
        cases hdst : o.dst with
        | none => simp [pre, hop, hcl, hdst] at hp
        | some d =>
          simp only [pre, hop, hcl, hdst, preCall] at hp
          split at hp
          · rename_i lent hone hlent
            split at hp
            · split at hp
              · cases hp
                intro z e he
                cases lent with
                | some l =>
                  obtain ⟨i, p, av, i1, i2, i3, i4⟩ := lent_some hlent
                  exact (outs_mut hout i1 i3).elim
                | none =>
                  dsimp only at he
                  split at he
                  · rename_i hfr _
                    cases he
                    exact ⟨rfl, freshU_none hfr⟩
                  · rename_i heq; cases heq
                  · cases he
              · cases hp
            · cases hp
          · cases hp
      | _ => simp [pre, hop, hcl] at hp
    | _ => simp [pre, hop, hcl] at hp
  | _ => simp [pre, hop] at hp
end
end Go.Proofs.YtaflceohlijekaaGreat.Ev
namespace Go.Proofs.YtaflceohlijekaaGreat.Ev
section
variable {P : Program} {E : Env} {tk : Nat -> Bool} {c : Cx} {st : St} {G G' : Gh} {w w' : World} {a : Act} {o : Oper} {K : Act -> World -> Prop} {Q : Exit -> Act -> World -> Prop} {tm : Nat -> Value}
variable {R : Type} {call : E.Call} {k : St -> Option R} {r : R} {pl : Plan E}
theorem runAlts_mono {k1 k2 : Eff -> Option R} : ∀ {l : List (Bool × Eff)}, (∀ q ∈ l, k1 q.2 = some r -> k2 q.2 = some r) -> runAlts k1 l = some r -> runAlts k2 l = some r
  | [], _, h => by cases h
  | (b, e) :: t, hm, h => by
    cases b with
    | true => exact hm (true, e) (List.mem_cons_self) h
    | false => exact runAlts_mono (l := t) (fun q hq => hm q (List.mem_cons_of_mem _ hq)) h
theorem runPlan_mono {k1 k2 : Eff -> Option R} {p : Plan E} (hp : PlanQuiet st p) (hm : ∀ e, EffQuiet st e -> k1 e = some r -> k2 e = some r) (h : runPlan E call k1 p = some r) : runPlan E call k2 p = some r := by
  cases p with
  | alts l => exact runAlts_mono (fun q hq => hm q.2 (hp q hq)) h
  | call f x mk =>
    simp only [runPlan] at h ⊢
    split at h
    · rename_i z hz
      split at h
      · rename_i e he
        exact hm e (hp z e he) h
      · cases h
    · cases h
structure Ext (st st' : St) (ds : List Nat) : Prop where
  us : ∀ k en, getA st.us k = some en -> getA st'.us k = some en
  vs : st'.vs = st.vs
  sl : ∀ t, t ∉ ds -> getA st'.sl t = getA st.sl t
theorem Ext.eff {st st1 : St} {ds : List Nat} (h : Ext st st1 ds) {e : Eff} {d : Option Nat} (he : EffQuiet st1 e) (hd : ∀ x, d = some x -> x ∈ ds) : Ext st (e.apply d st1) ds := by
  obtain ⟨h1, h2⟩ := he
  refine ⟨fun k en hk => ?_, ?_, fun t ht => ?_⟩
  · have := h.us k en hk
    show getA (e.nu ++ st1.us) k = some en
    rw [getA_append]
    cases hn : getA e.nu k with
    | none => exact this
    | some q => rw [h2 k (ne_none hn)] at this; cases this
  · show e.nv ++ st1.vs = st.vs
    rw [h1, List.nil_append]
    exact h.vs
  · cases d with
    | none => exact h.sl t ht
    | some x =>
      show getA ((x, e.v) :: st1.sl) t = _
      rw [getA_cons, if_neg (fun q => ht (by rw [<- q]; exact hd x rfl))]
      exact h.sl t ht
theorem Ext.reslot {st st1 : St} {ds : List Nat} (h : Ext st st1 ds) {g : Nat} {x : AV} (hg : getA st1.sl g = some x) : Ext st { st1 with sl := (g, x) :: st1.sl } ds := by
  refine ⟨h.us, h.vs, fun t ht => ?_⟩
  rw [<- h.sl t ht]
  show getA ((g, x) :: st1.sl) t = _
  rw [getA_cons]
  split
  · rename_i e; rw [<- e, hg]
  · rfl
open Classical in
theorem evOps_ext (st0 : St) (ds : List Nat) (all : List Oper) : ∀ (ops : List Oper) (st : St), (∀ o ∈ ops, opQuiet o.op = true /\ quietCall E o.op = true /\ ∀ x, o.dst = some x -> x ∈ ds) -> Ext st0 st ds -> evOps E call all ops st k = some r ->
    evOps E call all ops st (fun st' => if Ext st0 st' ds then k st' else none) = some r
  | [], st, _, hx, h => by simp only [evOps, hx, if_true] at h ⊢; exact h
  | o :: rest, st, hq, hx, h => by
    have ho := hq o (List.mem_cons_self)
    have hr := fun st1 hx1 h1 => evOps_ext st0 ds all rest st1 (fun q hq' => hq q (List.mem_cons_of_mem _ hq')) hx1 h1
    have hgo : ∀ st1, Ext st0 st1 ds -> (match pre E o st1 with | some p => runPlan E call (fun e => evOps E call all rest (e.apply o.dst st1) k) p | none => none) = some r ->
        (match pre E o st1 with | some p => runPlan E call (fun e => evOps E call all rest (e.apply o.dst st1) (fun st' => if Ext st0 st' ds then k st' else none)) p | none => none) = some r := by
      intro st1 hx1 h1
      cases hp : pre E o st1 with
      | none => rw [hp] at h1; cases h1
      | some p =>
        rw [hp] at h1
        exact runPlan_mono (pre_quiet ho.1 ho.2.1 hp) (fun e he h2 => hr _ (hx1.eff he ho.2.2) h2) h1
    have hskip : ∀ st1, Ext st0 st1 ds -> evOps E call all rest (Eff.apply ⟨.no, [], []⟩ o.dst st1) k = some r -> evOps E call all rest (Eff.apply ⟨.no, [], []⟩ o.dst st1) (fun st' => if Ext st0 st' ds then k st' else none) = some r := by
      intro st1 hx1 h1
      exact hr _ (hx1.eff (quiet_v st1 .no) ho.2.2) h1
    simp only [evOps] at h ⊢
    split at h
    · cases h
    · rename_i hg
      exact hgo st hx h
    · rename_i g want hg
      split at h
      · rename_i b hb
        have hx1 : Ext st0 { st with sl := (g, .v false [.bool b]) :: st.sl } ds := hx.reslot hb
        cases b <;> cases want
        · exact hgo _ hx1 h
        · exact hskip _ hx1 h
        · exact hskip _ hx1 h
        · exact hgo _ hx1 h
      · rename_i hb
        exact hskip _ (hx.reslot hb) h
      · cases h
section
variable {us us' : List (Nat × UE)} {G0 : Gh} {w0 : World}
theorem LfRel.restrict (hu : ∀ k en, getA us k = some en -> getA us' k = some en) {l u v} (h0 : LfRel c us G0 w0 l u) (h : LfRel c us' G w l v) : LfRel c us G w l v := by
  cases l with
  | own k ep p e =>
    obtain ⟨en, e1, _⟩ := h0
    obtain ⟨en', f1, f2⟩ := h
    rw [hu k en e1] at f1
    cases f1
    exact ⟨en, e1, f2⟩
  | sub k ep p e lo len =>
    obtain ⟨en, e1, _⟩ := h0
    obtain ⟨en', f1, f2⟩ := h
    rw [hu k en e1] at f1
    cases f1
    exact ⟨en, e1, f2⟩
  | _ => exact h
theorem LsRel.restrict (hu : ∀ k en, getA us k = some en -> getA us' k = some en) : ∀ {ls vs0 vs}, LsRel c us G0 w0 ls vs0 -> LsRel c us' G w ls vs -> LsRel c us G w ls vs
  | [], [], [], _, _ => trivial
  | _ :: _, _ :: _, _ :: _, h0, h => ⟨⟨h0.1.1.restrict hu h.1.1, h.1.2⟩, LsRel.restrict hu h0.2 h.2⟩
  | [], _, _ :: _, _, h => h.elim
  | _ :: _, _, [], _, h => h.elim
  | [], _ :: _, _, h, _ => h.elim
  | _ :: _, [], _, h, _ => h.elim
theorem VLs.restrict (hu : ∀ k en, getA us k = some en -> getA us' k = some en) {g ls u v} (h0 : VLs c us G0 w0 g ls u) (h : VLs c us' G w g ls v) : VLs c us G w g ls v := by
  cases g with
  | true =>
    obtain ⟨vs0, _, h0⟩ := h0
    obtain ⟨vs, rfl, h⟩ := h
    exact ⟨vs, rfl, h0.restrict hu h⟩
  | false => exact LsRel.restrict hu h0 h
theorem TupRel.restrict (hu : ∀ k en, getA us k = some en -> getA us' k = some en) : ∀ {l vs0 vs}, TupRel c us G0 w0 l vs0 -> TupRel c us' G w l vs -> TupRel c us G w l vs
  | [], [], [], _, _ => trivial
  | (_, _) :: _, _ :: _, _ :: _, h0, h => ⟨h0.1.restrict hu h.1, TupRel.restrict hu h0.2 h.2⟩
  | [], _, _ :: _, _, h => h.elim
  | (_, _) :: _, _, [], _, h => h.elim
  | [], _ :: _, _, h, _ => h.elim
  | (_, _) :: _, [], _, h, _ => h.elim
theorem VRel.restrict {vs : List (Nat × List Lf)} (hu : ∀ k en, getA us k = some en -> getA us' k = some en) {x u v} (h0 : VRel c us vs G0 w0 x u) (h : VRel c us' vs G w x v) : VRel c us vs G w x v := by
  cases x with
  | v g ls => exact VLs.restrict hu h0 h
  | ptr p =>
    cases p with
    | var r off => exact h
    | ext e x off => exact h
    | cells ls off =>
      obtain ⟨g0, o0, inner0, _, h0, _⟩ := h0
      obtain ⟨g, o, inner, e1, e2, e3⟩ := h
      exact ⟨g, o, inner, e1, h0.restrict hu e2, e3⟩
    | elem k ep p e i off =>
      obtain ⟨en, e1, _⟩ := h0
      obtain ⟨en', f1, f2⟩ := h
      rw [hu k en e1] at f1
      cases f1
      exact ⟨en, e1, f2⟩
  | tup l =>
    obtain ⟨q0, _, h0⟩ := h0
    obtain ⟨q, rfl, h⟩ := h
    exact ⟨q, rfl, h0.restrict hu h⟩
  | u => trivial
  | no => exact h
end
theorem forget_get (st : St) : ∀ (ops : List Oper) (t : Nat) (v : AV), getA (forget st ops) t = some v -> v = .u \/ (getA st.sl t = some v /\ ∀ o ∈ ops, o.dst ≠ some t)
  | [], t, v, h => .inr ⟨h, fun _ h => by cases h⟩
  | o :: r, t, v, h => by
    simp only [forget] at h
    split at h
    · rename_i d hd
      rw [getA_cons] at h
      split at h
      · cases h; exact .inl rfl
      · rename_i hne
        rcases forget_get st r t v h with q | ⟨q1, q2⟩
        · exact .inl q
        · refine .inr ⟨q1, fun o' ho' => ?_⟩
          cases ho' with
          | head => rw [hd]; exact fun e => hne (by cases e; rfl)
          | tail _ ho' => exact q2 o' ho'
    · rename_i hd
      rcases forget_get st r t v h with q | ⟨q1, q2⟩
      · exact .inl q
      · refine .inr ⟨q1, fun o' ho' => ?_⟩
        cases ho' with
        | head => rw [hd]; exact fun e => by cases e
        | tail _ ho' => exact q2 o' ho'
theorem Rel.joined (h : Rel c st G w (tmOf a)) {st' : St} {a' : Act} (h' : Rel c st' G' w' (tmOf a')) {ops : List Oper} (hx : Ext st st' (ops.filterMap (·.dst))) {d : Nat} {b : Bool} (hb : boolAt st' d = some b) :
    Rel c { st with sl := (d, .v false [.bool b]) :: forget st ops } G' w' (tmOf a') := by
  refine ⟨h'.kept, fun k ep e xs hk => h'.unit k _ _ _ (hx.us k _ hk), fun k ep e xs hk => h'.fUnit k _ _ _ (hx.us k _ hk), fun r ls hr => ?_, fun r ls hr => h'.vLt r ls (hx.vs ▸ hr), fun r ls hr => h'.fVar r ls (hx.vs ▸ hr),
    fun k1 k2 ep1 e1 xs1 ep2 e2 xs2 h1 h2 => h'.dUU k1 k2 _ _ _ _ _ _ (hx.us _ _ h1) (hx.us _ _ h2), fun k ep e xs r ls hk hr => h'.dUV k _ _ _ r ls (hx.us _ _ hk) (hx.vs ▸ hr), fun r1 r2 l1 l2 h1 h2 => h'.dVV r1 r2 l1 l2 (hx.vs ▸ h1) (hx.vs ▸ h2), fun t v hv => ?_, h'.pin⟩
  · obtain ⟨vs0, a1, _⟩ := h.var r ls hr
    obtain ⟨vs, b1, b2, b3⟩ := h'.var r ls (hx.vs ▸ hr)
    exact ⟨vs, a1.restrict hx.us b1, b2, b3⟩
  · simp only [getA_cons] at hv
    split at hv
    · rename_i e
      subst e
      cases hv
      unfold boolAt at hb
      split at hb
      · rename_i b' hg
        cases hb
        exact h'.slot d _ hg
      · cases hb
    · rcases forget_get st ops t v hv with rfl | ⟨q1, q2⟩
      · trivial
      · have hnot : t ∉ ops.filterMap (·.dst) := by
          intro hm
          obtain ⟨o', ho1, ho2⟩ := List.mem_filterMap.1 hm
          exact q2 o' ho1 ho2
        have := h'.slot t v ((hx.sl t hnot).trans q1)
        rw [hx.vs] at this
        exact (h.slot t v q1).restrict hx.us this
theorem joinable_quiet {ops : List Oper} {d : Nat} (h : joinable E ops = some d) : ∀ o ∈ ops, opQuiet o.op = true /\ quietCall E o.op = true /\ ∀ x, o.dst = some x -> x ∈ ops.filterMap (·.dst) := by
  intro o ho
  unfold joinable at h
  split at h
  · rename_i hc
    simp only [Bool.and_eq_true, List.all_eq_true] at hc
    have := hc.2 o ho
    exact ⟨this.1, this.2, fun x hx => List.mem_filterMap.2 ⟨o, ho, hx⟩⟩
  · cases h
theorem evReg_sound (htk : ∀ t, tk t = true -> TyOk P E t) (hspec : ∀ f x r, call f x = some r -> FnSpec P E f x r) {np : Nat -> Bool} (hnp : ∀ d, np d = false -> c.pin d = none) {ops : List Oper} {id : Nat} (hok : opsOk P E tk np a.tmps.size ops = true) (h : Rel c st G w (tmOf a))
    (he : evReg E call ops st k = some r) (hk : Then c a (Q .normal) k r) : (Code.region id ops.toArray false).wp P Q a w := by
  refine wp_region_lit ?_
  unfold evReg at he
  split at he
  · exact evOps_sound htk hspec hnp ops ops st G w a hok h he hk
  · rename_i d hj
    split at he
    · rename_i b hb
      have := evOps_ext st (ops.filterMap (·.dst)) ops ops st (joinable_quiet hj) ⟨fun _ _ h => h, rfl, fun _ _ => rfl⟩ hb
      refine evOps_sound htk hspec hnp ops ops st G w a hok h this (fun st' G' a' w' h1 h2 h3 h4 => ?_)
      classical
      by_cases hx : Ext st st' (ops.filterMap (·.dst))
      · simp only [hx, if_true] at h1
        exact hk _ G' a' w' he (h.joined h2 hx h1) h3 h4
      · simp only [hx, if_false] at h1
        cases h1
    · cases he
end
end Go.Proofs.YtaflceohlijekaaGreat.Ev
namespace Go.Proofs.YtaflceohlijekaaGreat.Ev
theorem bif_some {α : Type} {b : Bool} {x : Option α} {z : α} (h : (bif b then x else none) = some z) : b = true /\ x = some z := by
  cases b with
  | true => exact ⟨rfl, h⟩
  | false => cases h
theorem gLf_fill : ∀ (l : KL) (r : Sh) (x : Lf) (y : r.T) (z), gLf l r x y = some z -> fLf l r z = (x, y) := by
  intro l r x y z h
  unfold gLf at h
  split at h
  · split at h
    · rename_i hk; subst hk; cases h; rfl
    · cases h
  · cases h; rfl
  · cases h; rfl
  · split at h
    · rename_i hk; subst hk; cases h; rfl
    · cases h
  · obtain ⟨hb, h⟩ := bif_some h
    have := Nat.eq_of_beq_eq_true hb
    subst this
    split at h
    · rename_i he; subst he; cases h; rfl
    · cases h
  · cases h; rfl
  · obtain ⟨hb, h⟩ := bif_some h
    have := Nat.eq_of_beq_eq_true hb
    subst this
    split at h
    · rename_i he; subst he; cases h; rfl
    · cases h
  · cases h
theorem gLs_fill : ∀ (ls : List KL) (r : Sh) (xs : List Lf) (y : r.T) (z), gLs ls r xs y = some z -> fLs ls r z = (xs, y)
  | [], r, [], y, z, h => by simp only [gLs, Option.some.injEq] at h; subst h; rfl
  | [], r, _ :: _, y, z, h => by cases h
  | _ :: _, r, [], y, z, h => by cases h
  | l :: t, r, x :: xs, y, z, h => by
    simp only [gLs] at h
    split at h
    · rename_i q hq
      have h1 := gLs_fill t r xs y q hq
      have h2 := gLf_fill l _ x q z h
      simp only [fLs, h2, h1]
    · cases h
theorem gAV_fill : ∀ (a : KA) (r : Sh) (x : AV) (y : r.T) (z), gAV a r x y = some z -> fAV a r z = (x, y) := by
  intro a r x y z h
  unfold gAV at h
  split at h
  · split at h
    · rename_i hg
      subst hg
      have := gLs_fill _ _ _ _ _ h
      simp only [fAV, this]
    · cases h
  · obtain ⟨hb, h⟩ := bif_some h
    have := Nat.eq_of_beq_eq_true hb
    subst this
    split at h
    · rename_i he; subst he; cases h; rfl
    · cases h
  · obtain ⟨hb, h⟩ := bif_some h
    rw [Bool.and_eq_true] at hb
    have h1 := Nat.eq_of_beq_eq_true hb.1
    have h2 := Nat.eq_of_beq_eq_true hb.2
    subst h1
    subst h2
    cases h
    rfl
  · cases h; rfl
  · cases h
theorem gSl_fill : ∀ (l : List (Nat × KA)) (r : Sh) (xs : List (Nat × AV)) (y : r.T) (z), gSl l r xs y = some z -> fSl l r z = (xs, y)
  | [], r, [], y, z, h => by simp only [gSl, Option.some.injEq] at h; subst h; rfl
  | [], r, _ :: _, y, z, h => by cases h
  | _ :: _, r, [], y, z, h => by cases h
  | (t, a) :: l, r, (t', x) :: xs, y, z, h => by
    simp only [gSl] at h
    cases hb : Nat.beq t' t with
    | false => rw [hb] at h; cases h
    | true =>
      rw [hb] at h
      have := Nat.eq_of_beq_eq_true hb
      subst this
      simp only [cond_true] at h
      split at h
      · rename_i q hq
        have h1 := gSl_fill l r xs y q hq
        have h2 := gAV_fill a _ x q z h
        simp only [fSl, h2, h1]
      · cases h
theorem gVs_fill : ∀ (l : List (Nat × List KL)) (r : Sh) (xs : List (Nat × List Lf)) (y : r.T) (z), gVs l r xs y = some z -> fVs l r z = (xs, y)
  | [], r, [], y, z, h => by simp only [gVs, Option.some.injEq] at h; subst h; rfl
  | [], r, _ :: _, y, z, h => by cases h
  | _ :: _, r, [], y, z, h => by cases h
  | (t, a) :: l, r, (t', x) :: xs, y, z, h => by
    simp only [gVs] at h
    cases hb : Nat.beq t' t with
    | false => rw [hb] at h; cases h
    | true =>
      rw [hb] at h
      have := Nat.eq_of_beq_eq_true hb
      subst this
      simp only [cond_true] at h
      split at h
      · rename_i q hq
        have h1 := gVs_fill l r xs y q hq
        have h2 := gLs_fill a _ x q z h
        simp only [fVs, h2, h1]
      · cases h
theorem gUs_fill : ∀ (l : List (Nat × Sh)) (r : Sh) (xs : List (Nat × UE)) (y : r.T) (z), gUs l r xs y = some z -> fUs l r z = (xs, y)
  | [], r, [], y, z, h => by simp only [gUs, Option.some.injEq] at h; subst h; rfl
  | [], r, _ :: _, y, z, h => by cases h
  | _ :: _, r, [], y, z, h => by cases h
  | (t, e) :: l, r, (t', .gone) :: xs, y, z, h => by cases h
  | (t, e) :: l, r, (t', .own (n + 1) e' xs') :: xs, y, z, h => by cases h
  | (t, e) :: l, r, (t', .own 0 e' xs') :: xs, y, z, h => by
    simp only [gUs] at h
    cases hb : Nat.beq t' t with
    | false => rw [hb] at h; cases h
    | true =>
      rw [hb] at h
      have := Nat.eq_of_beq_eq_true hb
      subst this
      simp only [cond_true] at h
      split at h
      · rename_i he
        subst he
        split at h
        · rename_i q hq
          have h1 := gUs_fill l r xs y q hq
          cases h
          simp only [fUs, h1]
        · cases h
      · cases h
theorem grab_fill {k : Sk} {st : St} {x : k.A.T} (h : grab k st = some x) : fill k x = canon (k.sl.map (·.1)) st := by
  unfold grab at h
  dsimp only at h
  split at h
  · rename_i y hy
    split at h
    · rename_i z hz
      have h1 := gUs_fill _ _ _ _ _ hy
      have h2 := gVs_fill _ _ _ _ _ hz
      have h3 := gSl_fill _ _ _ _ _ h
      unfold fill
      simp only [h3, h2, h1]
    · cases h
  · cases h
theorem via_some {R : Type} {k : Sk} {st : St} {f : k.A.T -> Option R} {r : R} (h : via k st f = some r) : ∃ x, grab k st = some x /\ f x = some r := by
  unfold via at h
  split at h
  · rename_i x hx; exact ⟨x, hx, h⟩
  · cases h
end Go.Proofs.YtaflceohlijekaaGreat.Ev
