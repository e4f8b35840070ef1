/- A part of the proof that for every match and every number, the program's JudgeWatcher answers as the specification's JudgeWatcher does, and leaves its arguments as they were; there is no condition. -/
import Derived.Test.YtaflceohlijekaaGreatEvI
set_option linter.unusedVariables false
set_option linter.unusedSimpArgs false
namespace Go.Proofs.YtaflceohlijekaaGreat.Ev
def mHurtL (v : TBody) : Int := w64 (v.2.2.2.2.2.2.2.1 - 1)
def mHurt (v : TBody) : TBody := bif ieql (mHurtL v) 0 then (v.1, v.2.1, v.2.2.1, v.2.2.2.1, 0, 0, v.2.2.2.2.2.2.1, mHurtL v, 20) else (v.1, v.2.1, v.2.2.1, v.2.2.2.1, v.2.2.2.2.1, v.2.2.2.2.2.1, v.2.2.2.2.2.2.1, mHurtL v, v.2.2.2.2.2.2.2.2)
abbrev HS := List Bool × List TBody × List TBody × List Int
def mHit (n i : Nat) (s : HS) : HS :=
  bif ieql (List.getD s.2.2.1 (n + i) dBody).1 1 && !ilss (mMeets n s.2.2.1 (List.getD s.2.2.1 (n + i) dBody) (List.getD s.2.2.1 (n + i) dBody).2.1) 0 then
    (s.1.set (n + i) true, s.2.1, s.2.2.1.set (mMeets n s.2.2.1 (List.getD s.2.2.1 (n + i) dBody) (List.getD s.2.2.1 (n + i) dBody).2.1).toNat (mHurt (List.getD s.2.2.1 (mMeets n s.2.2.1 (List.getD s.2.2.1 (n + i) dBody) (List.getD s.2.2.1 (n + i) dBody).2.1).toNat dBody)),
      bif ieql (mHurtL (List.getD s.2.2.1 (mMeets n s.2.2.1 (List.getD s.2.2.1 (n + i) dBody) (List.getD s.2.2.1 (n + i) dBody).2.1).toNat dBody)) 0 then mPoint s.2.2.2 (List.getD s.2.2.1 (n + i) dBody).2.1 else s.2.2.2)
  else (s.1, s.2.1 ++ [List.getD s.2.2.1 (n + i) dBody], s.2.2.1, s.2.2.2)
structure HI (n : Nat) (orig : List TBody) (i : Nat) (s : HS) : Prop where
  bl : s.2.2.1.length = orig.length
  og : ∀ j, n <= j -> List.getD s.2.2.1 j dBody = List.getD orig j dBody
  kd : ∀ j, j < n -> (List.getD s.2.2.1 j dBody).1 = 0
  sl : s.2.2.2.length = n
  sc : ∀ q ∈ s.2.2.2, 0 <= q /\ q <= 1000000
  gl : s.1.length = orig.length
  gh : ∀ j, i <= j -> List.getD s.1 (n + j) false = false
  gk : ∀ j, List.getD s.1 (n + j) false = true -> (List.getD orig (n + j) dBody).1 = 1
  lf : s.2.1 = ((List.range i).filter (fun j => !List.getD s.1 (n + j) false)).map (fun j => List.getD orig (n + j) dBody)
structure OI (n : Nat) (orig : List TBody) : Prop where
  n4 : n <= 4
  lo : n <= orig.length
  hi : orig.length <= 24
  ow : ∀ b ∈ orig, 0 <= b.2.1 /\ b.2.1 < (n : Int)
  kd : ∀ i, i < n -> (List.getD orig i dBody).1 = 0
theorem HI.next {n : Nat} {orig : List TBody} (ho : OI n orig) {i : Nat} (hi : n + i < orig.length) {s : HS} (h : HI n orig i s) : HI n orig (i + 1) (mHit n i s) := by
  obtain ⟨g, left, bs, ss⟩ := s
  obtain ⟨bl, og, kd, sl, sc, gl, gh, gk, lf⟩ := h
  simp only at bl og kd sl sc gl gh gk lf
  unfold mHit
  simp only
  cases hc : ieql (List.getD bs (n + i) dBody).1 1 && !ilss (mMeets n bs (List.getD bs (n + i) dBody) (List.getD bs (n + i) dBody).2.1) 0 with
  | true =>
    rw [cond_true]
    rw [Bool.and_eq_true, Bool.not_eq_true'] at hc
    obtain ⟨c1, c2⟩ := hc
    obtain ⟨j, hj, e⟩ : ∃ j, j < n /\ mMeets n bs (List.getD bs (n + i) dBody) (List.getD bs (n + i) dBody).2.1 = ((j : Nat) : Int) := by
      rcases meets_range n bs (List.getD bs (n + i) dBody) (List.getD bs (n + i) dBody).2.1 with e | h
      · rw [e] at c2; cases c2
      · exact h
    rw [e, Int.toNat_natCast]
    refine ⟨?_, ?_, ?_, ?_, ?_, ?_, ?_, ?_, ?_⟩
    · simp only [List.length_set]; exact bl
    · intro j' h'
      show List.getD (bs.set j _) j' dBody = _
      rw [getD_set, if_neg (by omega)]
      exact og j' h'
    · intro j' h'
      show (List.getD (bs.set j _) j' dBody).1 = 0
      rw [getD_set]
      split
      · unfold mHurt
        cases ieql (mHurtL (List.getD bs j dBody)) 0 <;> exact kd j hj
      · exact kd j' h'
    · show (bif _ then _ else ss).length = n
      cases ieql (mHurtL (List.getD bs j dBody)) 0
      · exact sl
      · rw [cond_true, mPoint_len]; exact sl
    · show ∀ q ∈ (bif _ then _ else ss), _
      cases ieql (mHurtL (List.getD bs j dBody)) 0
      · exact sc
      · exact mPoint_ok sc
    · simp only [List.length_set]; exact gl
    · intro j' h'
      show List.getD (g.set (n + i) true) (n + j') false = false
      rw [getD_set, if_neg (by omega)]
      exact gh j' (by omega)
    · intro j' h'
      have h' : List.getD (g.set (n + i) true) (n + j') false = true := h'
      rw [getD_set] at h'
      split at h'
      · rename_i hq
        have : j' = i := by omega
        subst this
        rw [<- og _ (by omega)]
        simpa [ieql] using c1
      · exact gk j' h'
    · show left = _
      rw [lf, List.range_succ, List.filter_append, List.map_append]
      have h1 : (List.filter (fun j => !List.getD (g.set (n + i) true) (n + j) false) [i]) = [] := by
        have hq : (!List.getD (g.set (n + i) true) (n + i) false) = false := by
          rw [getD_set, if_pos ⟨rfl, by omega⟩]
          rfl
        rw [List.filter_cons, hq]
        rfl
      have h2 : (List.range i).filter (fun j => !List.getD (g.set (n + i) true) (n + j) false) = (List.range i).filter (fun j => !List.getD g (n + j) false) := by
        apply List.filter_congr
        intro j' hj'
        rw [List.mem_range] at hj'
        rw [getD_set, if_neg (by omega)]
      simp only
      rw [h1, h2, List.map_nil, List.append_nil]
  | false =>
    rw [cond_false]
    refine ⟨bl, og, kd, sl, sc, gl, fun j' h' => gh j' (by omega), gk, ?_⟩
    show left ++ _ = _
    rw [lf, List.range_succ, List.filter_append, List.map_append]
    have h1 : (List.filter (fun j => !List.getD g (n + j) false) [i]) = [i] := by
      rw [List.filter_cons, gh i (Nat.le_refl _)]
      rfl
    simp only
    rw [h1, og _ (by omega)]
    rfl
theorem hit_spec {k : Nat} (hk : 4 <= k) (x : List ByteArray) (tk sd : Int) (n : Nat) (orig : List TBody) (ho : OI n orig) (kept : List TBody) (s : HS) (hs : HI n orig 0 s) (K : (Int × Int × Int × (List Bool) × (List TBody) × (List TBody) × (List Int) × (List ByteArray) × Unit) -> Option TWorld) :
    loopW (spec_l02Hits_l0 (C k) K) ((n : Int), (n : Int), tk, sd, s.1, kept, s.2.2.1, s.2.2.2, x, ()) = K ((n : Int), tk, sd, (nFold (mHit n) (orig.length - n) 0 s).1, kept, (nFold (mHit n) (orig.length - n) 0 s).2.2.1, (nFold (mHit n) (orig.length - n) 0 s).2.2.2, x, ()) /\ HI n orig (orig.length - n) (nFold (mHit n) (orig.length - n) 0 s) := by
  refine loop_nI (orig.length - n) (fun i s => ((n : Int), ((n + i : Nat) : Int), tk, sd, s.1, kept, s.2.2.1, s.2.2.2, x, ())) (HI n orig) (mHit n) (fun s => K ((n : Int), tk, sd, s.1, kept, s.2.2.1, s.2.2.2, x, ())) s hs _ rfl (fun i s hi hI => ⟨fun ag => ?_, hI.next ho (by omega)⟩) (fun s hI ag => ?_)
  · obtain ⟨g, left, bs, ss⟩ := s
    obtain ⟨bl, og, kd, sl, sc, gl, gh, gk, lf⟩ := hI
    simp only at bl og kd sl sc gl gh gk lf
    have hil : n + i < bs.length := by omega
    have e1 : inb ((n + i : Nat) : Int) (len bs) = true := inb_nat _ hil
    have e2 : ilss ((n + i : Nat) : Int) (len bs) = true := ilss_nat hil
    have e3 : inb ((n + i : Nat) : Int) (len g) = true := inb_nat _ (by omega)
    have e4 : w64 (((n + i : Nat) : Int) + 1) = ((n + (i + 1) : Nat) : Int) := w64_nsucc (n + i) (by have := ho.hi; omega)
    have hm : ∀ b but, c_spec_l02Meets (C k) ((x, tk, sd, ss, bs), b, but) = some (mMeets n bs b but) := fun b but => by
      rw [L_spec_l02Meets (k := k) (by omega) (x, tk, sd, ss, bs) b but (by simp only; have := ho.lo; omega) (by simp only; have := ho.n4; omega)]
      simp only [sl]
    have hb : List.getD bs (n + i) dBody ∈ orig := by rw [og _ (by omega), getD_lt (by omega)]; exact List.getElem_mem _
    have how := ho.ow _ hb
    have hp : ∀ bs', c_spec_l02Point (C k) ((x, tk, sd, ss, bs'), (List.getD bs (n + i) dBody).2.1) = some (x, tk, sd, mPoint ss (List.getD bs (n + i) dBody).2.1, bs') := fun bs' => L_spec_l02Point (k := k) (by omega) (x, tk, sd, ss, bs') _ (by simp only [sl]; exact how)
    simp only [spec_l02Hits_l0, Int.toNat_natCast, e1, e2, e3, e4, cond_true, ck_true, hm, hp, bnd_some, ineq_not]
    unfold mHit
    simp only
    cases hkd : ieql (List.getD bs (n + i) dBody).1 1 with
    | false => rfl
    | true =>
      rw [Bool.not_true, cond_false, Bool.true_and]
      rcases meets_range n bs (List.getD bs (n + i) dBody) (List.getD bs (n + i) dBody).2.1 with e | ⟨j, hj, e⟩
      · rw [e]
        rfl
      · have q0 : ilss (j : Int) 0 = false := ilss_pos (by omega)
        have hjl : j < bs.length := by omega
        have q1 : inb (j : Int) (len bs) = true := inb_nat j hjl
        have q2 : ∀ v, inb (j : Int) (len (bs.set j v)) = true := fun v => inb_nat j (by rw [List.length_set]; exact hjl)
        have q3 : ∀ v, List.getD (bs.set j v) j dBody = v := fun v => by rw [getD_set, if_pos ⟨rfl, hjl⟩]
        rw [e]
        simp only [q0, q1, q2, q3, cond_false, cond_true, ck_true, Int.toNat_natCast, set_set', Bool.not_false, mHurt]
        rw [show w64 ((List.getD bs j dBody).2.2.2.2.2.2.2.1 - 1) = mHurtL (List.getD bs j dBody) from rfl]
        cases ieql (mHurtL (List.getD bs j dBody)) 0 <;> rfl
  · have e2 : ilss ((n + (orig.length - n) : Nat) : Int) (len s.2.2.1) = false := by
      rw [show n + (orig.length - n) = s.2.2.1.length by rw [hI.bl]; have := ho.lo; omega]
      exact ilss_end _
    simp only [spec_l02Hits_l0, e2, cond_false]
theorem hit_impl {k : Nat} (hk : 4 <= k) (x : List ByteArray) (tk sd : Int) (n : Nat) (orig : List TBody) (ho : OI n orig) (s : HS) (hs : HI n orig 0 s) (K : (Int × Int × (List TBody) × (List TBody) × (List Int) × (List ByteArray) × Unit) -> Option TWorld) :
    loopW (impl_stepShots_l0 (C k) K) (((orig.length - n : Nat) : Int), 0, (n : Int), ((orig.length - n : Nat) : Int), tk, sd, s.2.1, s.2.2.1, s.2.2.2, x, ()) = K (tk, sd, (nFold (mHit n) (orig.length - n) 0 s).2.1, (nFold (mHit n) (orig.length - n) 0 s).2.2.1, (nFold (mHit n) (orig.length - n) 0 s).2.2.2, x, ()) := by
  refine (loop_nI (orig.length - n) (fun i s => (((orig.length - n : Nat) : Int), (i : Int), (n : Int), ((orig.length - n : Nat) : Int), tk, sd, s.2.1, s.2.2.1, s.2.2.2, x, ())) (HI n orig) (mHit n) (fun s => K (tk, sd, s.2.1, s.2.2.1, s.2.2.2, x, ())) s hs _ rfl (fun i s hi hI => ⟨fun ag => ?_, hI.next ho (by omega)⟩) (fun s hI ag => ?_)).1
  · obtain ⟨g, left, bs, ss⟩ := s
    obtain ⟨bl, og, kd, sl, sc, gl, gh, gk, lf⟩ := hI
    simp only at bl og kd sl sc gl gh gk lf
    have hil : n + i < bs.length := by omega
    have e1 : inb (i : Int) ((orig.length - n : Nat) : Int) = true := inb_nat _ hi
    have e2 : ilss (i : Int) ((orig.length - n : Nat) : Int) = true := ilss_nat hi
    have e4 : w64 ((i : Int) + 1) = ((i + 1 : Nat) : Int) := w64_nsucc i (by have := ho.hi; omega)
    have hm : ∀ b but, c_impl_playerMet (C k) ((x, tk, sd, ss, bs), b, but) = some (mMeets n bs b but) := fun b but => by
      rw [L_impl_playerMet (k := k) (by omega) (x, tk, sd, ss, bs) b but (by simp only; have := ho.lo; omega) (by simp only; have := ho.n4; omega)]
      simp only [sl]
    have hb : List.getD bs (n + i) dBody ∈ orig := by rw [og _ (by omega), getD_lt (by omega)]; exact List.getElem_mem _
    have how := ho.ow _ hb
    have hp : c_impl_addScore (C k) (ss, (List.getD bs (n + i) dBody).2.1) = some (mPoint ss (List.getD bs (n + i) dBody).2.1) := L_impl_addScore (k := k) (by omega) ss _ (by rw [sl]; exact how) sc
    have hll : left.length <= 1000 := by
      rw [lf, List.length_map]
      have := List.length_filter_le (fun j => !List.getD g (n + j) false) (List.range i)
      rw [List.length_range] at this
      have := ho.hi
      omega
    have e6 : ∀ v, room left [v] 1954687338268 = true := fun v => room_one _ _ hll
    have hm1 : c_impl_playerMet (C k) ((x, tk, sd, ss, bs), ((List.getD bs (n + i) dBody).1, (List.getD bs (n + i) dBody).2.1, (List.getD bs (n + i) dBody).2.2.1, (List.getD bs (n + i) dBody).2.2.2.1, (List.getD bs (n + i) dBody).2.2.2.2.1, (List.getD bs (n + i) dBody).2.2.2.2.2.1, (List.getD bs (n + i) dBody).2.2.2.2.2.2.1, (List.getD bs (n + i) dBody).2.2.2.2.2.2.2.1, (List.getD bs (n + i) dBody).2.2.2.2.2.2.2.2), (List.getD bs (n + i) dBody).2.1) = some (mMeets n bs (List.getD bs (n + i) dBody) (List.getD bs (n + i) dBody).2.1) := hm _ _
    simp only [impl_stepShots_l0, Int.toNat_natCast, e1, e2, e4, e6, cond_true, ck_true, hm1, hp, bnd_some, ineq_not]
    unfold mHit
    simp only
    cases hkd : ieql (List.getD bs (n + i) dBody).1 1 with
    | false => rfl
    | true =>
      rw [Bool.not_true, cond_false, Bool.true_and]
      rcases meets_range n bs (List.getD bs (n + i) dBody) (List.getD bs (n + i) dBody).2.1 with e | ⟨j, hj, e⟩
      · rw [e]
        rfl
      · have q0 : ilss (j : Int) 0 = false := ilss_pos (by omega)
        have hjl : j < bs.length := by omega
        have q1 : inb (j : Int) (len bs) = true := inb_nat j hjl
        have q3 : ∀ v, List.getD (bs.set j v) j dBody = v := fun v => by rw [getD_set, if_pos ⟨rfl, hjl⟩]
        rw [e]
        simp only [q0, q1, q3, cond_false, cond_true, ck_true, Int.toNat_natCast, set_set', Bool.not_false, mHurt]
        rw [show w64 ((List.getD bs j dBody).2.2.2.2.2.2.2.1 - 1) = mHurtL (List.getD bs j dBody) from rfl]
        cases ieql (mHurtL (List.getD bs j dBody)) 0 <;> rfl
  · have e2 : ilss ((orig.length - n : Nat) : Int) ((orig.length - n : Nat) : Int) = false := ilss_end _
    simp only [impl_stepShots_l0, e2, cond_false]
end Go.Proofs.YtaflceohlijekaaGreat.Ev
namespace Go.Proofs.YtaflceohlijekaaGreat.Ev
def isItem (n : Nat) (bs : List TBody) (b : TBody) : Bool := ieql b.1 2 && igeq (mMeets n bs b (-1)) 0
def ptItem (n : Nat) (bs : List TBody) (ss : List Int) (b : TBody) : List Int := bif isItem n bs b then mPoint ss (mMeets n bs b (-1)) else ss
theorem isItem_who {n : Nat} {bs : List TBody} {b : TBody} (h : isItem n bs b = true) : ∃ j, j < n /\ mMeets n bs b (-1) = ((j : Nat) : Int) := by
  unfold isItem at h
  rw [Bool.and_eq_true] at h
  rcases meets_range n bs b (-1) with e | h'
  · rw [e] at h
    exact absurd h.2 (by decide)
  · exact h'
theorem ptItem_len (n : Nat) (bs : List TBody) (ss : List Int) (b : TBody) : (ptItem n bs ss b).length = ss.length := by
  unfold ptItem
  cases isItem n bs b
  · rfl
  · exact mPoint_len _ _
theorem ptItem_ok {n : Nat} {bs : List TBody} {ss : List Int} {b : TBody} (hs : ∀ s ∈ ss, 0 <= s /\ s <= 1000000) : ∀ s ∈ ptItem n bs ss b, 0 <= s /\ s <= 1000000 := by
  unfold ptItem
  cases isItem n bs b
  · exact hs
  · exact mPoint_ok hs
def mIt (n : Nat) (bs : List TBody) (i : Nat) (s : List Bool × List Int) : List Bool × List Int :=
  (bif isItem n bs (List.getD bs (n + i) dBody) then s.1.set (n + i) true else s.1, ptItem n bs s.2 (List.getD bs (n + i) dBody))
structure TI (n : Nat) (bs : List TBody) (g1 : List Bool) (ss1 : List Int) (i : Nat) (s : List Bool × List Int) : Prop where
  sl : s.2.length = n
  sc : ∀ q ∈ s.2, 0 <= q /\ q <= 1000000
  gl : s.1.length = bs.length
  gv : ∀ j, List.getD s.1 (n + j) false = (List.getD g1 (n + j) false || (decide (j < i) && isItem n bs (List.getD bs (n + j) dBody)))
  sv : s.2 = (List.range i).foldl (fun ss j => ptItem n bs ss (List.getD bs (n + j) dBody)) ss1
theorem TI.next {n : Nat} {bs : List TBody} {g1 : List Bool} {ss1 : List Int} {i : Nat} (hi : n + i < bs.length) {s : List Bool × List Int} (h : TI n bs g1 ss1 i s) : TI n bs g1 ss1 (i + 1) (mIt n bs i s) := by
  obtain ⟨g, ss⟩ := s
  obtain ⟨sl, sc, gl, gv, sv⟩ := h
  simp only at sl sc gl gv sv
  refine ⟨?_, ptItem_ok sc, ?_, ?_, ?_⟩
  · show (ptItem n bs ss _).length = n
    rw [ptItem_len]; exact sl
  · show (bif _ then _ else g).length = _
    cases isItem n bs (List.getD bs (n + i) dBody)
    · exact gl
    · rw [cond_true, List.length_set]; exact gl
  · intro j
    show List.getD (bif isItem n bs (List.getD bs (n + i) dBody) then g.set (n + i) true else g) (n + j) false = _
    by_cases hj : j = i
    · subst hj
      rw [decide_eq_true (Nat.lt_succ_self j), Bool.true_and]
      cases hI : isItem n bs (List.getD bs (n + j) dBody) with
      | true => rw [cond_true, getD_set, if_pos ⟨rfl, by omega⟩, Bool.or_true]
      | false =>
        rw [cond_false, gv j, hI, Bool.and_false]
    · have e : decide (j < i + 1) = decide (j < i) := by rw [decide_eq_decide]; omega
      rw [e, <- gv j]
      cases isItem n bs (List.getD bs (n + i) dBody) with
      | true => rw [cond_true, getD_set, if_neg (by omega)]
      | false => rfl
  · show ptItem n bs ss _ = _
    rw [List.range_succ, List.foldl_append, <- sv]
    rfl
theorem item_spec {k : Nat} (hk : 4 <= k) (x : List ByteArray) (tk sd : Int) (n : Nat) (hn4 : n <= 4) (bs : List TBody) (hlo : n <= bs.length) (hhi : bs.length <= 24) (kept : List TBody) (g1 : List Bool) (ss1 : List Int) (hs : TI n bs g1 ss1 0 (g1, ss1)) (K : (Int × Int × Int × (List Bool) × (List TBody) × (List TBody) × (List Int) × (List ByteArray) × Unit) -> Option TWorld) :
    loopW (spec_l02Hits_l2 (C k) K) ((n : Int), (n : Int), tk, sd, g1, kept, bs, ss1, x, ()) = K ((n : Int), tk, sd, (nFold (mIt n bs) (bs.length - n) 0 (g1, ss1)).1, kept, bs, (nFold (mIt n bs) (bs.length - n) 0 (g1, ss1)).2, x, ()) /\ TI n bs g1 ss1 (bs.length - n) (nFold (mIt n bs) (bs.length - n) 0 (g1, ss1)) := by
  refine loop_nI (bs.length - n) (fun i s => ((n : Int), ((n + i : Nat) : Int), tk, sd, s.1, kept, bs, s.2, x, ())) (TI n bs g1 ss1) (mIt n bs) (fun s => K ((n : Int), tk, sd, s.1, kept, bs, s.2, x, ())) (g1, ss1) hs _ rfl (fun i s hi hI => ⟨fun ag => ?_, hI.next (by omega)⟩) (fun s hI ag => ?_)
  · obtain ⟨g, ss⟩ := s
    obtain ⟨sl, sc, gl, gv, sv⟩ := hI
    simp only at sl sc gl gv sv
    have hil : n + i < bs.length := by omega
    have e1 : inb ((n + i : Nat) : Int) (len bs) = true := inb_nat _ hil
    have e2 : ilss ((n + i : Nat) : Int) (len bs) = true := ilss_nat hil
    have e3 : inb ((n + i : Nat) : Int) (len g) = true := inb_nat _ (by omega)
    have e4 : w64 (((n + i : Nat) : Int) + 1) = ((n + (i + 1) : Nat) : Int) := w64_nsucc (n + i) (by omega)
    have hm : ∀ b but, c_spec_l02Meets (C k) ((x, tk, sd, ss, bs), b, but) = some (mMeets n bs b but) := fun b but => by
      rw [L_spec_l02Meets (k := k) (by omega) (x, tk, sd, ss, bs) b but (by simp only; omega) (by simp only; omega)]
      simp only [sl]
    have hm1 : c_spec_l02Meets (C k) ((x, tk, sd, ss, bs), ((List.getD bs (n + i) dBody).1, (List.getD bs (n + i) dBody).2.1, (List.getD bs (n + i) dBody).2.2.1, (List.getD bs (n + i) dBody).2.2.2.1, (List.getD bs (n + i) dBody).2.2.2.2.1, (List.getD bs (n + i) dBody).2.2.2.2.2.1, (List.getD bs (n + i) dBody).2.2.2.2.2.2.1, (List.getD bs (n + i) dBody).2.2.2.2.2.2.2.1, (List.getD bs (n + i) dBody).2.2.2.2.2.2.2.2), (-1)) = some (mMeets n bs (List.getD bs (n + i) dBody) (-1)) := hm _ _
    simp only [spec_l02Hits_l2, Int.toNat_natCast, e1, e2, e3, e4, cond_true, ck_true, hm1, bnd_some, ineq_not]
    unfold mIt ptItem isItem
    simp only
    cases hkd : ieql (List.getD bs (n + i) dBody).1 2 with
    | false => rfl
    | true =>
      rw [Bool.not_true, cond_false, Bool.true_and]
      rcases meets_range n bs (List.getD bs (n + i) dBody) (-1) with e | ⟨j, hj, e⟩
      · rw [e]
        rfl
      · have hp : c_spec_l02Point (C k) ((x, tk, sd, ss, bs), (j : Int)) = some (x, tk, sd, mPoint ss (j : Int), bs) := L_spec_l02Point (k := k) (by omega) (x, tk, sd, ss, bs) _ (by simp only [sl]; omega)
        have q0 : igeq (j : Int) 0 = true := igeq_nat (b := 0) (by omega)
        rw [e]
        simp only [q0, hp, bnd_some, cond_true]
  · have e2 : ilss ((n + (bs.length - n) : Nat) : Int) (len bs) = false := by
      rw [show n + (bs.length - n) = bs.length by omega]
      exact ilss_end _
    simp only [spec_l02Hits_l2, e2, cond_false]
def mKeep (n : Nat) (bs : List TBody) (g : List Bool) (i : Nat) (kept : List TBody) : List TBody := bif !List.getD g (n + i) false then kept ++ [List.getD bs (n + i) dBody] else kept
theorem keep_spec {k : Nat} (x : List ByteArray) (tk sd : Int) (n : Nat) (bs : List TBody) (hlo : n <= bs.length) (hhi : bs.length <= 24) (g : List Bool) (hg : g.length = bs.length) (kept : List TBody) (hkl : kept.length <= n) (hn4 : n <= 4) (ss : List Int) (K : (Int × Int × (List TBody) × (List TBody) × (List Int) × (List ByteArray) × Unit) -> Option TWorld) :
    loopW (spec_l02Hits_l4 (C k) K) ((n : Int), tk, sd, g, kept, bs, ss, x, ()) = K (tk, sd, nFold (mKeep n bs g) (bs.length - n) 0 kept, bs, ss, x, ()) := by
  refine (loop_nI (bs.length - n) (fun i kept => (((n + i : Nat) : Int), tk, sd, g, kept, bs, ss, x, ())) (fun i kept => kept.length <= n + i) (mKeep n bs g) (fun kept => K (tk, sd, kept, bs, ss, x, ())) kept hkl _ rfl (fun i kept hi hI => ⟨fun ag => ?_, ?_⟩) (fun s hI ag => ?_)).1
  · have hil : n + i < bs.length := by omega
    have e1 : inb ((n + i : Nat) : Int) (len bs) = true := inb_nat _ hil
    have e2 : ilss ((n + i : Nat) : Int) (len bs) = true := ilss_nat hil
    have e3 : inb ((n + i : Nat) : Int) (len g) = true := inb_nat _ (by omega)
    have e4 : w64 (((n + i : Nat) : Int) + 1) = ((n + (i + 1) : Nat) : Int) := w64_nsucc (n + i) (by omega)
    have e6 : ∀ v, room kept [v] 1954687338268 = true := fun v => room_one _ _ (by omega)
    simp only [spec_l02Hits_l4, Int.toNat_natCast, e1, e2, e3, e4, e6, cond_true, ck_true, mKeep]
    cases (!List.getD g (n + i) false) <;> rfl
  · unfold mKeep
    cases (!List.getD g (n + i) false) with
    | true => rw [cond_true, List.length_append]; simp only [List.length_cons, List.length_nil]; omega
    | false => rw [cond_false]; omega
  · have e2 : ilss ((n + (bs.length - n) : Nat) : Int) (len bs) = false := by
      rw [show n + (bs.length - n) = bs.length by omega]
      exact ilss_end _
    simp only [spec_l02Hits_l4, e2, cond_false]
theorem keep_filter (n : Nat) (bs : List TBody) (g : List Bool) : ∀ (d m : Nat) (kept : List TBody), nFold (mKeep n bs g) d m kept = kept ++ ((List.range' m d).filter (fun j => !List.getD g (n + j) false)).map (fun j => List.getD bs (n + j) dBody)
  | 0, m, kept => by simp [nFold]
  | d + 1, m, kept => by
    simp only [nFold]
    rw [keep_filter n bs g d (m + 1), List.range'_succ, List.filter_cons]
    unfold mKeep
    cases h : (!List.getD g (n + m) false) with
    | true => simp
    | false => simp
def stItem (n : Nat) (bs : List TBody) (s : List TBody × List Int) (b : TBody) : List TBody × List Int := (bif isItem n bs b then s.1 else s.1 ++ [b], ptItem n bs s.2 b)
def mIt2 (n : Nat) (bs : List TBody) (i : Nat) (s : List TBody × List Int) : List TBody × List Int := stItem n bs s (List.getD bs (n + i) dBody)
theorem fold_items (n : Nat) (bs : List TBody) : ∀ (xs : List TBody) (l : List TBody) (ss : List Int), xs.foldl (stItem n bs) (l, ss) = (l ++ xs.filter (fun b => !isItem n bs b), xs.foldl (ptItem n bs) ss)
  | [], l, ss => by simp
  | b :: xs, l, ss => by
    rw [List.foldl_cons, List.foldl_cons, List.filter_cons]
    show List.foldl (stItem n bs) (bif isItem n bs b then l else l ++ [b], ptItem n bs ss b) xs = _
    rw [fold_items n bs xs]
    cases isItem n bs b <;> simp
theorem nFold_list {S α : Type} (f : S -> α -> S) (g : Nat -> S -> S) (d0 : α) (xs : List α) (h : ∀ i s, i < xs.length -> g i s = f s (List.getD xs i d0)) : ∀ (d m : Nat) (s : S), m + d = xs.length -> nFold g d m s = (xs.drop m).foldl f s
  | 0, m, s, hm => by
    have : m = xs.length := by omega
    subst this
    rw [List.drop_length]
    rfl
  | d + 1, m, s, hm => by
    have hlt : m < xs.length := by omega
    simp only [nFold]
    rw [h m s hlt, nFold_list f g d0 xs h d (m + 1) _ (by omega), List.drop_eq_getElem_cons hlt, List.foldl_cons, getD_lt hlt]
theorem item_impl {k : Nat} (hk : 4 <= k) (x : List ByteArray) (tk sd : Int) (n : Nat) (hn4 : n <= 4) (bs : List TBody) (hlo : n <= bs.length) (hhi : bs.length <= 24) (ss1 : List Int) (hsl : ss1.length = n) (hsc : ∀ q ∈ ss1, 0 <= q /\ q <= 1000000) (K : (Int × Int × (List TBody) × (List TBody) × (List Int) × (List ByteArray) × Unit) -> Option TWorld) :
    loopW (impl_stepItems_l0 (C k) K) (((bs.length - n : Nat) : Int), 0, (n : Int), ((bs.length - n : Nat) : Int), tk, sd, [], bs, ss1, x, ()) = K (tk, sd, (nFold (mIt2 n bs) (bs.length - n) 0 ([], ss1)).1, bs, (nFold (mIt2 n bs) (bs.length - n) 0 ([], ss1)).2, x, ()) := by
  refine (loop_nI (bs.length - n) (fun i s => (((bs.length - n : Nat) : Int), (i : Int), (n : Int), ((bs.length - n : Nat) : Int), tk, sd, s.1, bs, s.2, x, ())) (fun i s => s.1.length <= i /\ s.2.length = n /\ ∀ q ∈ s.2, 0 <= q /\ q <= 1000000) (mIt2 n bs) (fun s => K (tk, sd, s.1, bs, s.2, x, ())) ([], ss1) ⟨by simp, hsl, hsc⟩ _ rfl (fun i s hi hI => ⟨fun ag => ?_, ?_⟩) (fun s hI ag => ?_)).1
  · obtain ⟨l2, ss⟩ := s
    obtain ⟨hl, sl, sc⟩ := hI
    simp only at hl sl sc
    have hil : n + i < bs.length := by omega
    have e1 : inb (i : Int) ((bs.length - n : Nat) : Int) = true := inb_nat _ hi
    have e2 : ilss (i : Int) ((bs.length - n : Nat) : Int) = true := ilss_nat hi
    have e4 : w64 ((i : Int) + 1) = ((i + 1 : Nat) : Int) := w64_nsucc i (by omega)
    have hm : ∀ b but, c_impl_playerMet (C k) ((x, tk, sd, ss, bs), b, but) = some (mMeets n bs b but) := fun b but => by
      rw [L_impl_playerMet (k := k) (by omega) (x, tk, sd, ss, bs) b but (by simp only; omega) (by simp only; omega)]
      simp only [sl]
    have e6 : ∀ v, room l2 [v] 1954687338268 = true := fun v => room_one _ _ (by omega)
    have hm1 : c_impl_playerMet (C k) ((x, tk, sd, ss, bs), ((List.getD bs (n + i) dBody).1, (List.getD bs (n + i) dBody).2.1, (List.getD bs (n + i) dBody).2.2.1, (List.getD bs (n + i) dBody).2.2.2.1, (List.getD bs (n + i) dBody).2.2.2.2.1, (List.getD bs (n + i) dBody).2.2.2.2.2.1, (List.getD bs (n + i) dBody).2.2.2.2.2.2.1, (List.getD bs (n + i) dBody).2.2.2.2.2.2.2.1, (List.getD bs (n + i) dBody).2.2.2.2.2.2.2.2), (-1)) = some (mMeets n bs (List.getD bs (n + i) dBody) (-1)) := hm _ _
    simp only [impl_stepItems_l0, Int.toNat_natCast, e1, e2, e4, e6, cond_true, ck_true, hm1, bnd_some]
    unfold mIt2 stItem ptItem isItem
    simp only
    cases hkd : ieql (List.getD bs (n + i) dBody).1 2 with
    | false => rfl
    | true =>
      rw [Bool.true_and, cond_true]
      rcases meets_range n bs (List.getD bs (n + i) dBody) (-1) with e | ⟨j, hj, e⟩
      · rw [e]
        rfl
      · have hp : c_impl_addScore (C k) (ss, (j : Int)) = some (mPoint ss (j : Int)) := L_impl_addScore (k := k) (by omega) ss _ (by rw [sl]; omega) sc
        have q0 : igeq (j : Int) 0 = true := igeq_nat (b := 0) (by omega)
        rw [e]
        simp only [q0, hp, bnd_some, cond_true]
  · obtain ⟨hl, sl, sc⟩ := hI
    refine ⟨?_, ?_, ptItem_ok sc⟩
    · show (bif isItem n bs (List.getD bs (n + i) dBody) then s.1 else s.1 ++ [List.getD bs (n + i) dBody]).length <= i + 1
      cases isItem n bs (List.getD bs (n + i) dBody)
      · rw [cond_false, List.length_append]; simp only [List.length_cons, List.length_nil]; omega
      · rw [cond_true]; omega
    · show (ptItem n bs s.2 _).length = n
      rw [ptItem_len]; exact sl
  · have e2 : ilss ((bs.length - n : Nat) : Int) ((bs.length - n : Nat) : Int) = false := ilss_end _
    simp only [impl_stepItems_l0, e2, cond_false]
def mH (n : Nat) (bs : List TBody) (ss : List Int) : HS := nFold (mHit n) (bs.length - n) 0 (List.replicate bs.length false, [], bs, ss)
def mHits (n : Nat) (bs : List TBody) (ss : List Int) : List Int × List TBody :=
  ((mH n bs ss).2.1.foldl (ptItem n (mH n bs ss).2.2.1) (mH n bs ss).2.2.2, (mH n bs ss).2.2.1.take n ++ (mH n bs ss).2.1.filter (fun b => !isItem n (mH n bs ss).2.2.1 b))
theorem HI.start {n : Nat} {bs : List TBody} {ss : List Int} (ho : OI n bs) (hsl : ss.length = n) (hsc : ∀ q ∈ ss, 0 <= q /\ q <= 1000000) : HI n bs 0 (List.replicate bs.length false, [], bs, ss) := by
  have hz : ∀ j, List.getD (List.replicate bs.length false) j false = false := by
    intro j
    rw [List.getD_eq_getElem?_getD, List.getElem?_replicate]
    split <;> rfl
  refine ⟨rfl, fun _ _ => rfl, ho.kd, hsl, hsc, List.length_replicate, fun j _ => hz _, fun j h => ?_, rfl⟩
  have h : List.getD (List.replicate bs.length false) (n + j) false = true := h
  rw [hz] at h
  cases h
theorem foldl_ext {S α : Type} (f g : S -> α -> S) : ∀ (xs : List α) (s : S), (∀ s a, a ∈ xs -> f s a = g s a) -> xs.foldl f s = xs.foldl g s
  | [], s, h => rfl
  | a :: xs, s, h => by
    rw [List.foldl_cons, List.foldl_cons, h s a (List.mem_cons_self), foldl_ext f g xs _ (fun s b hb => h s b (List.mem_cons_of_mem _ hb))]
theorem foldl_filter_map {S : Type} (f : S -> TBody -> S) (p : Nat -> Bool) (a : Nat -> TBody) : ∀ (xs : List Nat) (s : S), (∀ s j, j ∈ xs -> p j = false -> f s (a j) = s) -> ((xs.filter p).map a).foldl f s = xs.foldl (fun s j => f s (a j)) s
  | [], s, h => rfl
  | j :: xs, s, h => by
    rw [List.filter_cons, List.foldl_cons]
    cases hp : p j with
    | true =>
      rw [if_pos rfl, List.map_cons, List.foldl_cons]
      exact foldl_filter_map f p a xs _ (fun s j hj => h s j (List.mem_cons_of_mem _ hj))
    | false =>
      rw [if_neg (by simp), h s j (List.mem_cons_self) hp]
      exact foldl_filter_map f p a xs _ (fun s j hj => h s j (List.mem_cons_of_mem _ hj))
theorem agree {n : Nat} {bs : List TBody} {ss : List Int} (ho : OI n bs) (hH : HI n bs (bs.length - n) (mH n bs ss)) :
    (nFold (mIt n (mH n bs ss).2.2.1) (bs.length - n) 0 ((mH n bs ss).1, (mH n bs ss).2.2.2)).2 = (mHits n bs ss).1 /\
    nFold (mKeep n (mH n bs ss).2.2.1 (nFold (mIt n (mH n bs ss).2.2.1) (bs.length - n) 0 ((mH n bs ss).1, (mH n bs ss).2.2.2)).1) (bs.length - n) 0 ((mH n bs ss).2.2.1.take n) = (mHits n bs ss).2 := by
  unfold mHits
  generalize mH n bs ss = H at *
  obtain ⟨g, left, b2, s2⟩ := H
  obtain ⟨bl, og, kd, sl, sc, gl, gh, gk, lf⟩ := hH
  simp only at bl og kd sl sc gl gh gk lf ⊢
  have hT0 : TI n b2 g s2 0 (g, s2) := ⟨sl, sc, by rw [bl]; exact gl, fun j => by simp, rfl⟩
  have hT : TI n b2 g s2 (bs.length - n) (nFold (mIt n b2) (bs.length - n) 0 (g, s2)) :=
    nFold_I (TI n b2 g s2) (mIt n b2) (bs.length - n) (fun i s hi h => h.next (by omega)) (bs.length - n) 0 _ (by omega) hT0
  have hshot : ∀ j, List.getD g (n + j) false = true -> isItem n b2 (List.getD b2 (n + j) dBody) = false := by
    intro j hj
    have := gk j hj
    unfold isItem
    rw [og _ (by omega), this]
    rfl
  constructor
  · rw [hT.sv, lf]
    rw [foldl_filter_map (ptItem n b2) (fun j => !List.getD g (n + j) false) (fun j => List.getD bs (n + j) dBody)]
    · apply foldl_ext
      intro s j _
      rw [og _ (by omega)]
    · intro s j _ hp
      have hp : (!List.getD g (n + j) false) = false := hp
      rw [Bool.not_eq_false'] at hp
      have := hshot j hp
      rw [og _ (by omega)] at this
      unfold ptItem
      rw [this]
      rfl
  · rw [keep_filter, <- List.range_eq_range', lf, List.filter_map, List.filter_filter]
    congr 1
    have e1 : ∀ j, List.getD b2 (n + j) dBody = List.getD bs (n + j) dBody := fun j => og _ (by omega)
    have e2 : (List.range (bs.length - n)).filter (fun j => !List.getD (nFold (mIt n b2) (bs.length - n) 0 (g, s2)).1 (n + j) false) = (List.range (bs.length - n)).filter (fun j => ((fun b => !isItem n b2 b) ∘ fun j => List.getD bs (n + j) dBody) j && !List.getD g (n + j) false) := by
      apply List.filter_congr
      intro j hj
      rw [List.mem_range] at hj
      rw [hT.gv j, decide_eq_true hj, Bool.true_and, e1 j]
      show _ = (!isItem n b2 (List.getD bs (n + j) dBody) && _)
      cases List.getD g (n + j) false <;> cases isItem n b2 (List.getD bs (n + j) dBody) <;> rfl
    rw [e2]
    exact List.map_congr_left (fun j _ => e1 j)
theorem take_cut {α : Type} (xs : List α) (n : Nat) : cut xs (Int.toNat 0) (Int.toNat (n : Int) - Int.toNat 0) = xs.take n := by
  simp [cut]
theorem take_cut' {α : Type} (xs : List α) (n : Nat) : cut xs (Int.toNat 0) (n - Int.toNat 0) = xs.take n := by
  simp [cut]
theorem cutb_ok (n m : Nat) (h : n <= m) : cutb 0 (n : Int) (m : Int) = true := by
  simp only [cutb, Bool.and_eq_true, decide_eq_true_eq]
  omega
theorem L_spec_l02Hits {k : Nat} (hk : 5 <= k) (x : List ByteArray) (tk sd : Int) (ss : List Int) (bs : List TBody) (ho : OI ss.length bs) (hsc : ∀ q ∈ ss, 0 <= q /\ q <= 1000000) :
    c_spec_l02Hits (C k) (x, tk, sd, ss, bs) = some (x, tk, sd, (mHits ss.length bs ss).1, (mHits ss.length bs ss).2) := by
  obtain ⟨k, rfl⟩ := pk (by omega)
  rw [u_spec_l02Hits]
  have hhi := ho.hi
  have hlo := ho.lo
  have hn4 := ho.n4
  have c1 : cutb 0 (len ss) (len bs) = true := cutb_ok _ _ hlo
  have c2 : mkb (len bs) (len bs) 140737488355328 = true := mkb_len (m := 140737488355328) (by omega)
  have c3 : room [] (bs.take ss.length) 1954687338268 = true := room_le _ _ _ (by rw [List.length_take, List.length_nil]; omega)
  have hH0 := HI.start ho rfl hsc
  simp only [spec_l02Hits, take_cut, take_cut', c1, c2, c3, ck_true, List.nil_append, Int.toNat_natCast]
  have hH : HI ss.length bs (bs.length - ss.length) (mH ss.length bs ss) := nFold_I (HI ss.length bs) (mHit ss.length) (bs.length - ss.length) (fun i s hi h => h.next ho (by omega)) (bs.length - ss.length) 0 _ (by omega) hH0
  refine (hit_spec (k := k) (by omega) x tk sd ss.length bs ho (bs.take ss.length) (List.replicate bs.length false, [], bs, ss) hH0 _).1.trans ?_
  obtain ⟨hA1, hA2⟩ := agree ho hH
  change loopW _ ((ss.length : Int), (ss.length : Int), tk, sd, (mH ss.length bs ss).1, bs.take ss.length, (mH ss.length bs ss).2.2.1, (mH ss.length bs ss).2.2.2, x, ()) = _
  generalize mHits ss.length bs ss = F at *
  generalize mH ss.length bs ss = H at *
  obtain ⟨g, left, b2, s2⟩ := H
  obtain ⟨bl, og, kd, sl, sc, gl, gh, gk, lf⟩ := hH
  simp only at bl og kd sl sc gl gh gk lf hA1 hA2 ⊢
  rw [<- bl] at hA1 hA2
  have hT0 : TI ss.length b2 g s2 0 (g, s2) := ⟨sl, sc, by rw [bl]; exact gl, fun j => by simp, rfl⟩
  have hT : TI ss.length b2 g s2 (b2.length - ss.length) (nFold (mIt ss.length b2) (b2.length - ss.length) 0 (g, s2)) :=
    nFold_I (TI ss.length b2 g s2) (mIt ss.length b2) (b2.length - ss.length) (fun i s hi h => h.next (by omega)) (b2.length - ss.length) 0 _ (by omega) hT0
  refine (item_spec (k := k) (by omega) x tk sd ss.length hn4 b2 (by omega) (by omega) (bs.take ss.length) g s2 hT0 _).1.trans ?_
  have c4 : cutb 0 (ss.length : Int) (len b2) = true := cutb_ok _ _ (by omega)
  have t1 : (bs.take ss.length).length = ss.length := by rw [List.length_take]; omega
  have t2 : (b2.take ss.length).length = ss.length := by rw [List.length_take]; omega
  have t3 : List.take ss.length (b2.take ss.length) ++ List.drop ss.length (bs.take ss.length) = b2.take ss.length := by
    rw [List.take_take, Nat.min_self, List.drop_eq_nil_of_le (by omega), List.append_nil]
  simp only [Int.toNat_natCast, take_cut, take_cut', c4, ck_true, t1, t2, t3]
  rw [keep_spec (k := k) x tk sd ss.length b2 (by omega) (by omega) _ hT.gl (b2.take ss.length) (by omega) hn4, hA1, hA2]
theorem L_impl_stepShots {k : Nat} (hk : 5 <= k) (x : List ByteArray) (tk sd : Int) (ss : List Int) (bs : List TBody) (ho : OI ss.length bs) (hsc : ∀ q ∈ ss, 0 <= q /\ q <= 1000000) :
    c_impl_stepShots (C k) (x, tk, sd, ss, bs) = some (x, tk, sd, (mH ss.length bs ss).2.2.2, (mH ss.length bs ss).2.2.1.take ss.length ++ (mH ss.length bs ss).2.1) /\ HI ss.length bs (bs.length - ss.length) (mH ss.length bs ss) := by
  obtain ⟨k, rfl⟩ := pk (by omega)
  rw [u_impl_stepShots]
  have hhi := ho.hi
  have hlo := ho.lo
  have c1 : cutb (len ss) (len bs) (len bs) = true := by
    simp only [cutb, len, Bool.and_eq_true, decide_eq_true_eq]
    omega
  have hH0 := HI.start ho rfl hsc
  have hH : HI ss.length bs (bs.length - ss.length) (mH ss.length bs ss) := nFold_I (HI ss.length bs) (mHit ss.length) (bs.length - ss.length) (fun i s hi h => h.next ho (by omega)) (bs.length - ss.length) 0 _ (by omega) hH0
  refine ⟨?_, hH⟩
  simp only [impl_stepShots, c1, ck_true, Int.toNat_natCast]
  refine (hit_impl (k := k) (by omega) x tk sd ss.length bs ho (List.replicate bs.length false, [], bs, ss) hH0 _).trans ?_
  have em : nFold (mHit ss.length) (bs.length - ss.length) 0 (List.replicate bs.length false, [], bs, ss) = mH ss.length bs ss := rfl
  simp only [em]
  generalize mH ss.length bs ss = H at *
  obtain ⟨g, left, b2, s2⟩ := H
  obtain ⟨bl, og, kd, sl, sc, gl, gh, gk, lf⟩ := hH
  simp only at bl og kd sl sc gl gh gk lf ⊢
  have hll : left.length <= 24 := by
    rw [lf, List.length_map]
    have := List.length_filter_le (fun j => !List.getD g (ss.length + j) false) (List.range (bs.length - ss.length))
    rw [List.length_range] at this
    omega
  have q1 : len s2 = ((ss.length : Nat) : Int) := by simp only [len, sl]
  simp only [q1, Int.toNat_natCast, sl, take_cut, take_cut']
  rw [ck_of (cutb_ok _ _ (by omega)), ck_of (room_le _ _ _ (by rw [List.length_take]; omega))]
theorem L_impl_stepItems {k : Nat} (hk : 5 <= k) (x : List ByteArray) (tk sd : Int) (ss : List Int) (bs : List TBody) (hlo : ss.length <= bs.length) (hhi : bs.length <= 24) (hn4 : ss.length <= 4) (hsc : ∀ q ∈ ss, 0 <= q /\ q <= 1000000) :
    c_impl_stepItems (C k) (x, tk, sd, ss, bs) = some (x, tk, sd, (bs.drop ss.length).foldl (ptItem ss.length bs) ss, bs.take ss.length ++ (bs.drop ss.length).filter (fun b => !isItem ss.length bs b)) := by
  obtain ⟨k, rfl⟩ := pk (by omega)
  rw [u_impl_stepItems]
  have c1 : cutb (len ss) (len bs) (len bs) = true := by
    simp only [cutb, len, Bool.and_eq_true, decide_eq_true_eq]
    omega
  simp only [impl_stepItems, c1, ck_true, Int.toNat_natCast]
  refine (item_impl (k := k) (by omega) x tk sd ss.length hn4 bs hlo hhi ss rfl hsc _).trans ?_
  have hx : nFold (mIt2 ss.length bs) (bs.length - ss.length) 0 ([], ss) = ((bs.drop ss.length).filter (fun b => !isItem ss.length bs b), (bs.drop ss.length).foldl (ptItem ss.length bs) ss) := by
    have := nFold_list (stItem ss.length bs) (mIt2 ss.length bs) dBody (bs.drop ss.length) (fun i s hi => by
      unfold mIt2
      rw [List.length_drop] at hi
      rw [getD_lt (by omega), getD_lt (by rw [List.length_drop]; exact hi), List.getElem_drop]) (bs.length - ss.length) 0 ([], ss) (by rw [List.length_drop]; omega)
    rw [this, List.drop_zero, fold_items, List.nil_append]
  rw [hx]
  have hsl : ∀ (xs : List TBody) (s : List Int), s.length = ss.length -> (xs.foldl (ptItem ss.length bs) s).length = ss.length := by
    intro xs
    induction xs with
    | nil => intro s h; exact h
    | cons a xs ih => intro s h; rw [List.foldl_cons]; exact ih _ (by rw [ptItem_len]; exact h)
  have hl := hsl (bs.drop ss.length) ss rfl
  have hf := List.length_filter_le (fun b => !isItem ss.length bs b) (bs.drop ss.length)
  rw [List.length_drop] at hf
  have q1 : len ((bs.drop ss.length).foldl (ptItem ss.length bs) ss) = ((ss.length : Nat) : Int) := by simp only [len, hl]
  simp only [q1, Int.toNat_natCast, hl, take_cut, take_cut']
  rw [ck_of (cutb_ok _ _ hlo), ck_of (room_le _ _ _ (by rw [List.length_take]; omega))]
theorem hits_impl {n : Nat} {bs : List TBody} {ss : List Int} (hn : n <= (mH n bs ss).2.2.1.length) :
    (((mH n bs ss).2.2.1.take n ++ (mH n bs ss).2.1).drop n).foldl (ptItem n ((mH n bs ss).2.2.1.take n ++ (mH n bs ss).2.1)) (mH n bs ss).2.2.2 = (mHits n bs ss).1 /\
    ((mH n bs ss).2.2.1.take n ++ (mH n bs ss).2.1).take n ++ (((mH n bs ss).2.2.1.take n ++ (mH n bs ss).2.1).drop n).filter (fun b => !isItem n ((mH n bs ss).2.2.1.take n ++ (mH n bs ss).2.1) b) = (mHits n bs ss).2 := by
  unfold mHits
  generalize mH n bs ss = H at *
  obtain ⟨g, left, b2, s2⟩ := H
  simp only at hn ⊢
  have t2 : (b2.take n).length = n := by rw [List.length_take]; omega
  have d1 : (b2.take n ++ left).drop n = left := by
    rw [List.drop_append_of_le_length (by omega), List.drop_eq_nil_of_le (by omega), List.nil_append]
  have d2 : (b2.take n ++ left).take n = b2.take n := by
    rw [List.take_append_of_le_length (by omega), List.take_of_length_le (by omega)]
  have em : ∀ b but, mMeets n (b2.take n ++ left) b but = mMeets n b2 b but := fun b but => meets_congr n _ _ b but (fun j hj => by
    rw [getD_app _ _ _ _ (by omega)]
    simp only [List.getD_eq_getElem?_getD, List.getElem?_take, if_pos hj])
  have ei : isItem n (b2.take n ++ left) = isItem n b2 := by
    funext b
    unfold isItem
    rw [em]
  have ep : ptItem n (b2.take n ++ left) = ptItem n b2 := by
    funext s b
    unfold ptItem
    rw [em, ei]
  rw [d1, d2, ei, ep]
  exact ⟨rfl, rfl⟩
end Go.Proofs.YtaflceohlijekaaGreat.Ev
namespace Go.Proofs.YtaflceohlijekaaGreat.Ev
def mAt (bs : List TBody) (px py : Int) (i : Nat) : Bool := ieql (List.getD bs i dBody).1 2 && (ieql (List.getD bs i dBody).2.2.1 px && ieql (List.getD bs i dBody).2.2.2.1 py)
def mSpot (x : List ByteArray) (sd : Int) (c : Nat) : Int := List.getD (List.getD (mSpots x) (mRand (mNext sd) (len (mSpots x))).2.toNat []) c 0
def mEnd (x : List ByteArray) (tk sd : Int) (ss : List Int) (bs : List TBody) : TWorld :=
  bif ineq (Int.tmod tk 16) 0 || (ieql (len (mSpots x)) 0 || igeq (len bs) 24) then (x, tk, mNext sd, ss, bs) else
  bif (List.range bs.length).all (fun i => !mAt bs (mSpot x sd 0) (mSpot x sd 1) i) then (x, tk, (mRand (mNext sd) (len (mSpots x))).1, ss, bs ++ [(2, 0, mSpot x sd 0, mSpot x sd 1, 0, 0, 0, 0, 0)]) else
  (x, tk, (mRand (mNext sd) (len (mSpots x))).1, ss, bs)
def mTick (x : List ByteArray) (tk sd : Int) (ss : List Int) (bs : List TBody) (row : List Int) : TWorld :=
  mEnd x (w64 (tk + 1)) sd (mHits ss.length (mMoves x ss.length (mPlayers x ss.length row bs)) ss).1 (mHits ss.length (mMoves x ss.length (mPlayers x ss.length row bs)) ss).2
def mStep (w : TWorld) (row : List Int) : TWorld := bif mWorld w && (!ieql w.2.1 100000 && mRow row (len w.2.2.2.1)) then mTick w.1 w.2.1 w.2.2.1 w.2.2.2.1 w.2.2.2.2 row else w
structure EI (n : Nat) (ss : List Int) (bs : List TBody) : Prop where
  sl : ss.length = n
  sc : ∀ q ∈ ss, 0 <= q /\ q <= 1000000
  lo : n <= bs.length
  hi : bs.length <= 24
  kd : ∀ j, j < n -> (List.getD bs j dBody).1 = 0
theorem foldl_sc (n : Nat) (b2 : List TBody) : ∀ (xs : List TBody) (s : List Int), s.length = n -> (∀ q ∈ s, 0 <= q /\ q <= 1000000) -> (xs.foldl (ptItem n b2) s).length = n /\ ∀ q ∈ xs.foldl (ptItem n b2) s, 0 <= q /\ q <= 1000000
  | [], s, h1, h2 => ⟨h1, h2⟩
  | a :: xs, s, h1, h2 => by
    rw [List.foldl_cons]
    exact foldl_sc n b2 xs _ (by rw [ptItem_len]; exact h1) (ptItem_ok h2)
theorem mHits_EI {n : Nat} {bs : List TBody} {ss : List Int} (ho : OI n bs) (hsl : ss.length = n) (hsc : ∀ q ∈ ss, 0 <= q /\ q <= 1000000) : EI n (mHits n bs ss).1 (mHits n bs ss).2 /\ HI n bs (bs.length - n) (mH n bs ss) := by
  have hhi := ho.hi
  have hlo := ho.lo
  have hH0 := HI.start ho hsl hsc
  have hH : HI n bs (bs.length - n) (mH n bs ss) := nFold_I (HI n bs) (mHit n) (bs.length - n) (fun i s hi h => h.next ho (by omega)) (bs.length - n) 0 _ (by omega) hH0
  refine ⟨?_, hH⟩
  unfold mHits
  generalize mH n bs ss = H at *
  obtain ⟨g, left, b2, s2⟩ := H
  obtain ⟨bl, og, kd, sl, sc, gl, gh, gk, lf⟩ := hH
  simp only at bl og kd sl sc gl gh gk lf ⊢
  have hll : left.length <= bs.length - n := by
    rw [lf, List.length_map]
    have := List.length_filter_le (fun j => !List.getD g (n + j) false) (List.range (bs.length - n))
    rw [List.length_range] at this
    exact this
  have hf := List.length_filter_le (fun b => !isItem n b2 b) left
  obtain ⟨f1, f2⟩ := foldl_sc n b2 left s2 sl sc
  refine ⟨f1, f2, ?_, ?_, ?_⟩
  · rw [List.length_append, List.length_take]; omega
  · rw [List.length_append, List.length_take]; omega
  · intro j hj
    rw [getD_app _ _ _ _ (by rw [List.length_take]; omega)]
    have := kd j hj
    simp only [List.getD_eq_getElem?_getD, List.getElem?_take, if_pos hj] at this ⊢
    exact this
theorem rand_at {n : Nat} (s : Int) (h0 : 0 < n) : ∃ i : Nat, i < n /\ (mRand s (n : Int)).2 = (i : Int) := by
  unfold mRand
  cases h : mIn s 0 65535 && mIn (n : Int) 1 4096 with
  | false => exact ⟨0, h0, rfl⟩
  | true =>
    rw [cond_true]
    have hn := mNext_in s
    have h1 : 0 <= Int.tdiv (mNext s) 16 := Int.tdiv_nonneg (by omega) (by decide)
    have h2 : 0 <= Int.tmod (Int.tdiv (mNext s) 16) (n : Int) := Int.tmod_nonneg _ h1
    have h3 : Int.tmod (Int.tdiv (mNext s) 16) (n : Int) < (n : Int) := Int.tmod_lt_of_pos _ (by omega)
    exact ⟨(Int.tmod (Int.tdiv (mNext s) 16) (n : Int)).toNat, by omega, by show Int.tmod _ _ = _; omega⟩
theorem at_all (n : Nat) (bs : List TBody) (px py : Int) (hlo : n <= bs.length) (kd : ∀ j, j < n -> (List.getD bs j dBody).1 = 0) :
    (List.range (bs.length - n)).all (fun i => !mAt bs px py (n + i)) = (List.range bs.length).all (fun i => !mAt bs px py i) := by
  rw [Bool.eq_iff_iff, List.all_eq_true, List.all_eq_true]
  constructor
  · intro h j hj
    rw [List.mem_range] at hj
    by_cases hjn : j < n
    · unfold mAt
      rw [kd j hjn]
      rfl
    · have := h (j - n) (by rw [List.mem_range]; omega)
      rwa [show n + (j - n) = j by omega] at this
  · intro h j hj
    rw [List.mem_range] at hj
    exact h (n + j) (by rw [List.mem_range]; omega)
theorem end_spec {k : Nat} (hk : 4 <= k) (x : List ByteArray) (tk sd : Int) (n : Nat) (ss : List Int) (bs : List TBody) (hE : EI n ss bs) (hsp : (mSpots x).length <= 240) (hs2 : ∀ p ∈ mSpots x, p.length = 2) (h0 : 0 < (mSpots x).length) (h24 : bs.length < 24) (K : (Int × Int × Int × (List (List Int)) × (List TBody) × (List Int) × (List ByteArray) × Unit) -> Option TWorld)
    (hK : ∀ i : Nat, i < (mSpots x).length -> K ((i : Int), tk, sd, mSpots x, bs, ss, x, ()) = some (x, tk, sd, ss, bs ++ [(2, 0, List.getD (List.getD (mSpots x) i []) 0 0, List.getD (List.getD (mSpots x) i []) 1 0, 0, 0, 0, 0, 0)])) (i : Nat) (hi : i < (mSpots x).length) :
    loopW (spec_l02Step_l4 (C k) K) ((i : Int), (n : Int), tk, sd, mSpots x, bs, ss, x, ()) = some (bif (List.range bs.length).all (fun j => !mAt bs (List.getD (List.getD (mSpots x) i []) 0 0) (List.getD (List.getD (mSpots x) i []) 1 0) j) then (x, tk, sd, ss, bs ++ [(2, 0, List.getD (List.getD (mSpots x) i []) 0 0, List.getD (List.getD (mSpots x) i []) 1 0, 0, 0, 0, 0, 0)]) else (x, tk, sd, ss, bs)) := by
  have hlo := hE.lo
  have hp : (List.getD (mSpots x) i []).length = 2 := by rw [getD_lt hi]; exact hs2 _ (List.getElem_mem hi)
  have p0 : inb 0 (len (List.getD (mSpots x) i [])) = true := inb_nat 0 (by omega)
  have p1 : inb 1 (len (List.getD (mSpots x) i [])) = true := inb_nat 1 (by omega)
  have pi : inb (i : Int) (len (mSpots x)) = true := inb_nat i hi
  have t0 : Int.toNat 0 = 0 := rfl
  have t1 : Int.toNat 1 = 1 := rfl
  rw [<- at_all n bs _ _ hlo hE.kd]
  refine (loop_allN (bs.length - n) (fun j => ((i : Int), ((n + j : Nat) : Int), tk, sd, mSpots x, bs, ss, x, ())) (fun j => !mAt bs (List.getD (List.getD (mSpots x) i []) 0 0) (List.getD (List.getD (mSpots x) i []) 1 0) (n + j)) (x, tk, sd, ss, bs) _ (fun j hj ag => ?_) (fun ag => ?_)).trans (by rw [some_bif])
  · have hjl : n + j < bs.length := by omega
    have e1 : inb ((n + j : Nat) : Int) (len bs) = true := inb_nat _ hjl
    have e2 : ilss ((n + j : Nat) : Int) (len bs) = true := ilss_nat hjl
    have e4 : w64 (((n + j : Nat) : Int) + 1) = ((n + (j + 1) : Nat) : Int) := w64_nsucc (n + j) (by omega)
    simp only [spec_l02Step_l4, Int.toNat_natCast, e1, e2, e4, p0, p1, pi, t0, t1, cond_true, ck_true, bnd_some, mAt]
    cases ieql (List.getD bs (n + j) dBody).1 2 <;> cases ieql (List.getD bs (n + j) dBody).2.2.1 (List.getD (List.getD (mSpots x) i []) 0 0) <;> cases ieql (List.getD bs (n + j) dBody).2.2.2.1 (List.getD (List.getD (mSpots x) i []) 1 0) <;> rfl
  · have e2 : ilss ((n + (bs.length - n) : Nat) : Int) (len bs) = false := by
      rw [show n + (bs.length - n) = bs.length by omega]
      exact ilss_end _
    simp only [spec_l02Step_l4, e2, cond_false, hK i hi]
theorem w64_tick {tk : Int} (h : 0 <= tk /\ tk <= 100000) : w64 (tk + 1) = tk + 1 := w64_id (by omega) (by omega)
theorem step_OI {x : List ByteArray} {n : Nat} {bs : List TBody} (hw : WI x n bs) {row : List Int} (hP : PI x n bs n (mPlayers x n row bs)) (hM : MI n (mPlayers x n row bs).length (mMoves x n (mPlayers x n row bs))) : OI n (mMoves x n (mPlayers x n row bs)) := by
  have h1 := hP.lo
  have h2 := hP.hi
  have h3 := hM.lo
  have h4 := hM.hi
  exact ⟨hw.n4, by omega, by omega, hM.ow, fun i hi => hM.kd i hi (by omega)⟩
theorem L_spec_l02Step {k : Nat} (hk : 6 <= k) (x : List ByteArray) (tk sd : Int) (ss : List Int) (bs : List TBody) (row : List Int) (hw : WI x ss.length bs) (hsc : ∀ q ∈ ss, 0 <= q /\ q <= 1000000) (hr : row.length = ss.length) :
    c_spec_l02Step (C k) ((x, tk, sd, ss, bs), row) = some (mTick x tk sd ss bs row) /\ EI ss.length (mHits ss.length (mMoves x ss.length (mPlayers x ss.length row bs)) ss).1 (mHits ss.length (mMoves x ss.length (mPlayers x ss.length row bs)) ss).2 := by
  obtain ⟨k, rfl⟩ := pk (by omega)
  rw [u_spec_l02Step]
  obtain ⟨hsp, hs2⟩ := mSpots_facts x
  have hP := (pl_spec (k := k) (by omega) x ss.length bs hw row hr tk sd ss (fun _ => none)).2
  have hM := (mv_spec (k := k) (by omega) x ss.length (mPlayers x ss.length row bs) hP.hi hP.gd hP.kd tk sd ss (fun _ => none)).2
  have ho := step_OI hw hP hM
  obtain ⟨hE, _⟩ := mHits_EI ho rfl hsc
  refine ⟨?_, hE⟩
  simp only [spec_l02Step]
  refine (pl_spec (k := k) (by omega) x ss.length bs hw row hr tk sd ss _).1.trans ?_
  refine (mv_spec (k := k) (by omega) x ss.length (mPlayers x ss.length row bs) hP.hi hP.gd hP.kd tk sd ss _).1.trans ?_
  simp only [L_spec_l02Hits (k := k) (by omega) x tk sd ss _ ho hsc, bnd_some, L_spec_NextRandom (k := k) (by omega), L_spec_SpotsOf (k := k) (by omega), some_bif, L_spec_RandomBelow (k := k) (by omega)]
  unfold mTick mEnd mSpot
  generalize mHits ss.length (mMoves x ss.length (mPlayers x ss.length row bs)) ss = F at *
  obtain ⟨s3, b3⟩ := F
  simp only at hE ⊢
  cases hc : ineq (Int.tmod (w64 (tk + 1)) 16) 0 with
  | true => rfl
  | false =>
    cases hc2 : ieql (len (mSpots x)) 0 with
    | true => rfl
    | false =>
      cases hc3 : igeq (len b3) 24 with
      | true => rfl
      | false =>
        have h0 : 0 < (mSpots x).length := by
          have : (len (mSpots x)) ≠ 0 := by simpa [ieql] using hc2
          simp only [len] at this
          omega
        have h24 : b3.length < 24 := by
          simp only [igeq, len, decide_eq_false_iff_not] at hc3
          omega
        simp only [cond_false, Bool.or_self]
        obtain ⟨i, hi, e⟩ := rand_at (mNext sd) h0
        rw [show (mRand (mNext sd) (len (mSpots x))).2 = (i : Int) from e, Int.toNat_natCast]
        refine (end_spec (k := k) (by omega) x (w64 (tk + 1)) _ ss.length s3 b3 hE hsp hs2 h0 h24 _ (fun i hi => ?_) i hi).trans ?_
        · have hp : (List.getD (mSpots x) i []).length = 2 := by rw [getD_lt hi]; exact hs2 _ (List.getElem_mem hi)
          have p0 : inb 0 (len (List.getD (mSpots x) i [])) = true := inb_nat 0 (by omega)
          have p1 : inb 1 (len (List.getD (mSpots x) i [])) = true := inb_nat 1 (by omega)
          have pi : inb (i : Int) (len (mSpots x)) = true := inb_nat i hi
          have t0 : Int.toNat 0 = 0 := rfl
          have t1 : Int.toNat 1 = 1 := rfl
          simp only [Int.toNat_natCast, p0, p1, pi, t0, t1, ck_true]
          rw [ck_of (room_one _ _ (by omega))]
        · rfl
structure SmW (w : TWorld) : Prop where
  r : w.1.length <= 1048576
  s : w.2.2.2.1.length <= 1048576
  b : w.2.2.2.2.length <= 1048576
theorem WI_of {w : TWorld} (h : mWorld w = true) : WI w.1 w.2.2.2.1.length w.2.2.2.2 /\ ∀ q ∈ w.2.2.2.1, 0 <= q /\ q <= 1000000 := by
  obtain ⟨a1, a2, a3, a4, a5, a6, a7⟩ := mWorld_facts h
  exact ⟨⟨a1, a4.1, a4.2, a6.1, a6.2, a7⟩, a5⟩
theorem row_len {row : List Int} {n : Nat} (h : mRow row (n : Int) = true) : row.length = n /\ mInputs row = true := by
  unfold mRow at h
  rw [Bool.and_eq_true] at h
  refine ⟨?_, h.2⟩
  have := h.1
  simp only [ieql, len, beq_iff_eq] at this
  omega
theorem L_spec_StepWorld {k : Nat} (hk : 7 <= k) (w : TWorld) (hS : SmW w) (row : List Int) (hr : row.length <= 1048576) : c_spec_StepWorld (C k) (w, row) = some (mStep w row) := by
  obtain ⟨k, rfl⟩ := pk (by omega)
  rw [u_spec_StepWorld]
  simp only [spec_StepWorld, L_spec_l02Copy (k := k) (by omega) w hS.r hS.s hS.b, L_spec_WorldOk (k := k) (by omega), L_spec_l02RowOk (k := k) (by omega) row _ hr, bnd_some, bnd_same, some_bif, mStep]
  cases hw : mWorld w with
  | false => rfl
  | true =>
    cases h1 : ieql w.2.1 100000 with
    | true => rfl
    | false =>
      cases h2 : mRow row (len w.2.2.2.1) with
      | false => rfl
      | true =>
        obtain ⟨hW, hsc⟩ := WI_of hw
        obtain ⟨hl, hin⟩ := row_len h2
        obtain ⟨x, tk, sd, ss, bs⟩ := w
        exact (L_spec_l02Step (k := k) (by omega) x tk sd ss bs row hW hsc hl).1
theorem L_impl_stepPlayers {k : Nat} (hk : 7 <= k) (x : List ByteArray) (tk sd : Int) (ss : List Int) (bs : List TBody) (row : List Int) (hw : WI x ss.length bs) (hr : row.length = ss.length) (hin : mInputs row = true) : c_impl_stepPlayers (C k) ((x, tk, sd, ss, bs), row) = some (x, tk, sd, ss, mPlayers x ss.length row bs) := by
  obtain ⟨k, rfl⟩ := pk (by omega)
  rw [u_impl_stepPlayers]
  exact pl_impl (k := k) (by omega) x ss.length bs hw row hr hin tk sd ss _
theorem L_impl_stepMoves {k : Nat} (hk : 5 <= k) (x : List ByteArray) (hx : mLevel x = true) (tk sd : Int) (ss : List Int) (n : Nat) (bs : List TBody) (hl : bs.length <= 24) (hg : ∀ b ∈ bs, Bod x n b) (hkd : ∀ j, j < n -> (List.getD bs j dBody).1 = 0) (hnk : ∀ j, n <= j -> j < bs.length -> (List.getD bs j dBody).1 ≠ 0) : c_impl_stepMoves (C k) (x, tk, sd, ss, bs) = some (x, tk, sd, ss, mMoves x n bs) := by
  obtain ⟨k, rfl⟩ := pk (by omega)
  rw [u_impl_stepMoves]
  exact mv_impl (k := k) (by omega) x hx n bs hl hg hkd hnk tk sd ss _
theorem L_impl_StepWorld {k : Nat} (hk : 8 <= k) (w : TWorld) (hS : SmW w) (row : List Int) (hr : row.length <= 1048576) : c_impl_StepWorld (C k) (w, row) = some (mStep w row) := by
  obtain ⟨k, rfl⟩ := pk (by omega)
  rw [u_impl_StepWorld]
  simp only [impl_StepWorld, L_impl_copyWorld (k := k) (by omega) w hS.r hS.s hS.b, L_impl_WorldOk (k := k) (by omega), L_impl_rowOk (k := k) (by omega) row _ hr, bnd_some, bnd_same, some_bif, mStep]
  cases hw : mWorld w with
  | false => rfl
  | true =>
    cases h1 : ieql w.2.1 100000 with
    | true => rfl
    | false =>
      cases h2 : mRow row (len w.2.2.2.1) with
      | false => rfl
      | true =>
        obtain ⟨hW, hsc⟩ := WI_of hw
        obtain ⟨hl, hin⟩ := row_len h2
        obtain ⟨x, tk, sd, ss, bs⟩ := w
        simp only at hW hsc hl hin
        obtain ⟨hsp, hs2⟩ := mSpots_facts x
        have hP := (pl_spec (k := 10) (by omega) x ss.length bs hW row hl tk sd ss (fun _ => none)).2
        have hM := (mv_spec (k := 10) (by omega) x ss.length (mPlayers x ss.length row bs) hP.hi hP.gd hP.kd tk sd ss (fun _ => none)).2
        have ho := step_OI hW hP hM
        obtain ⟨hE, hH⟩ := mHits_EI ho rfl hsc
        have hlo := ho.lo
        have hhi := ho.hi
        have hn4 := ho.n4
        obtain ⟨sh, _⟩ := L_impl_stepShots (k := k) (by omega) x tk sd ss _ ho hsc
        have hfl : (mH ss.length (mMoves x ss.length (mPlayers x ss.length row bs)) ss).2.1.length <= (mMoves x ss.length (mPlayers x ss.length row bs)).length - ss.length := by
          rw [hH.lf, List.length_map]
          have := List.length_filter_le (fun j => !List.getD (mH ss.length (mMoves x ss.length (mPlayers x ss.length row bs)) ss).1 (ss.length + j) false) (List.range ((mMoves x ss.length (mPlayers x ss.length row bs)).length - ss.length))
          rw [List.length_range] at this
          exact this
        have hbl := hH.bl
        have hsl := hH.sl
        have si := L_impl_stepItems (k := k) (by omega) x tk sd (mH ss.length (mMoves x ss.length (mPlayers x ss.length row bs)) ss).2.2.2 ((mH ss.length (mMoves x ss.length (mPlayers x ss.length row bs)) ss).2.2.1.take ss.length ++ (mH ss.length (mMoves x ss.length (mPlayers x ss.length row bs)) ss).2.1) (by rw [List.length_append, List.length_take]; omega) (by rw [List.length_append, List.length_take]; omega) (by omega) hH.sc
        rw [hsl] at si
        obtain ⟨q1, q2⟩ := hits_impl (n := ss.length) (bs := mMoves x ss.length (mPlayers x ss.length row bs)) (ss := ss) (by omega)
        rw [q1, q2] at si
        simp only [Bool.not_true, cond_false, Bool.not_false, Bool.and_self, cond_true, L_impl_stepPlayers (k := k) (by omega) x tk sd ss bs row hW hl hin, bnd_some, L_impl_stepMoves (k := k) (by omega) x hW.lv tk sd ss ss.length _ hP.hi hP.gd hP.kd hP.nk, sh, si, L_impl_NextRandom (k := k) (by omega), L_impl_SpotsOf (k := k) (by omega), some_bif, L_impl_RandomBelow (k := k) (by omega)]
        unfold mTick mEnd mSpot
        generalize mHits ss.length (mMoves x ss.length (mPlayers x ss.length row bs)) ss = F at *
        obtain ⟨s3, b3⟩ := F
        simp only at hE ⊢
        cases hc : ineq (Int.tmod (w64 (tk + 1)) 16) 0 with
        | true => rfl
        | false =>
          cases hc2 : ieql (len (mSpots x)) 0 with
          | true => rfl
          | false =>
            cases hc3 : igeq (len b3) 24 with
            | true => rfl
            | false =>
              have h0 : 0 < (mSpots x).length := by
                have : (len (mSpots x)) ≠ 0 := by simpa [ieql] using hc2
                simp only [len] at this
                omega
              have h24 : b3.length < 24 := by
                simp only [igeq, len, decide_eq_false_iff_not] at hc3
                omega
              simp only [cond_false, Bool.or_self]
              obtain ⟨i, hi, e⟩ := rand_at (mNext sd) h0
              rw [show (mRand (mNext sd) (len (mSpots x))).2 = (i : Int) from e, Int.toNat_natCast]
              have hp : (List.getD (mSpots x) i []).length = 2 := by rw [getD_lt hi]; exact hs2 _ (List.getElem_mem hi)
              have p0 : inb 0 (len (List.getD (mSpots x) i [])) = true := inb_nat 0 (by omega)
              have p1 : inb 1 (len (List.getD (mSpots x) i [])) = true := inb_nat 1 (by omega)
              have pi : inb (i : Int) (len (mSpots x)) = true := inb_nat i hi
              have t0 : Int.toNat 0 = 0 := rfl
              have t1 : Int.toNat 1 = 1 := rfl
              simp only [p0, p1, pi, t0, t1, ck_true]
              generalize List.getD (List.getD (mSpots x) i []) 0 0 = px
              generalize List.getD (List.getD (mSpots x) i []) 1 0 = py
              generalize (mRand (mNext sd) (len (mSpots x))).1 = sd2
              refine (loop_allN b3.length (fun j => (px, py, len b3, (j : Int), 0, 0, w64 (tk + 1), sd2, b3, s3, x, [], [], [], ())) (fun j => !mAt b3 px py j) (x, w64 (tk + 1), sd2, s3, b3) (some (x, w64 (tk + 1), sd2, s3, b3 ++ [(2, 0, px, py, 0, 0, 0, 0, 0)])) (fun j hj ag => ?_) (fun ag => ?_)).trans (by rw [some_bif])
              · have e1 : inb (j : Int) (len b3) = true := inb_nat _ hj
                have e2 : ilss (j : Int) (len b3) = true := ilss_nat hj
                have e4 : w64 ((j : Int) + 1) = ((j + 1 : Nat) : Int) := w64_nsucc j (by omega)
                simp only [impl_StepWorld_l0, Int.toNat_natCast, e1, e2, e4, cond_true, ck_true, some_bif, bnd_some, mAt]
                cases ieql (List.getD b3 j dBody).1 2 <;> cases ieql (List.getD b3 j dBody).2.2.1 px <;> cases ieql (List.getD b3 j dBody).2.2.2.1 py <;> rfl
              · have e2 : ilss (b3.length : Int) (len b3) = false := ilss_end _
                simp only [impl_StepWorld_l0, e2, cond_false]
                rw [ck_of (room_one _ _ (by omega))]
theorem mEnd_facts (x : List ByteArray) (tk sd : Int) (ss : List Int) (bs : List TBody) : (mEnd x tk sd ss bs).1 = x /\ (mEnd x tk sd ss bs).2.1 = tk /\ (mEnd x tk sd ss bs).2.2.2.1 = ss /\ (mEnd x tk sd ss bs).2.2.2.2.length <= bs.length + 1 := by
  unfold mEnd
  cases ineq (Int.tmod tk 16) 0 || (ieql (len (mSpots x)) 0 || igeq (len bs) 24) with
  | true => exact ⟨rfl, rfl, rfl, Nat.le_succ _⟩
  | false =>
    cases (List.range bs.length).all (fun i => !mAt bs (mSpot x sd 0) (mSpot x sd 1) i) with
    | true => exact ⟨rfl, rfl, rfl, by simp⟩
    | false => exact ⟨rfl, rfl, rfl, Nat.le_succ _⟩
theorem mStep_facts {w : TWorld} {row : List Int} (hS : SmW w) : SmW (mStep w row) /\ (mStep w row).2.2.2.1.length = w.2.2.2.1.length /\ (mStep w row).1 = w.1 /\ ((mStep w row).2.1 = w.2.1 \/ (mStep w row).2.1 = w.2.1 + 1) /\ (mWorld w = true -> ∀ q ∈ (mStep w row).2.2.2.1, 0 <= q /\ q <= 1000000) := by
  unfold mStep
  cases hc : mWorld w && (!ieql w.2.1 100000 && mRow row (len w.2.2.2.1)) with
  | false =>
    exact ⟨hS, rfl, rfl, .inl rfl, fun h => (WI_of h).2⟩
  | true =>
    rw [cond_true]
    rw [Bool.and_eq_true, Bool.and_eq_true] at hc
    obtain ⟨hw, h1, h2⟩ := hc
    obtain ⟨a1, a2, a3, a4, a5, a6, a7⟩ := mWorld_facts hw
    obtain ⟨hW, hsc⟩ := WI_of hw
    obtain ⟨hl, hin⟩ := row_len h2
    have hE := (L_spec_l02Step (k := 6) (by omega) w.1 w.2.1 w.2.2.1 w.2.2.2.1 w.2.2.2.2 row hW hsc hl).2
    unfold mTick
    obtain ⟨m1, m2, m3, m4⟩ := mEnd_facts w.1 (w64 (w.2.1 + 1)) w.2.2.1 (mHits w.2.2.2.1.length (mMoves w.1 w.2.2.2.1.length (mPlayers w.1 w.2.2.2.1.length row w.2.2.2.2)) w.2.2.2.1).1 (mHits w.2.2.2.1.length (mMoves w.1 w.2.2.2.1.length (mPlayers w.1 w.2.2.2.1.length row w.2.2.2.2)) w.2.2.2.1).2
    have g1 := hE.sl
    have g2 := hE.hi
    refine ⟨⟨by rw [m1]; exact hS.r, by rw [m3, g1]; exact hS.s, by omega⟩, by rw [m3, g1], m1, .inr (by rw [m2, w64_tick a2]), fun _ => by rw [m3]; exact hE.sc⟩
end Go.Proofs.YtaflceohlijekaaGreat.Ev
namespace Go.Proofs.YtaflceohlijekaaGreat.Ev
theorem loop_go {V R : Type} {body : V -> (V -> Option R) -> Option R} (N : Nat) (st : Nat -> V) (K : Option R) (v : V) (hv : v = st 0)
    (h : ∀ n, n < N -> ∀ ag, body (st n) ag = ag (st (n + 1))) (he : ∀ ag, body (st N) ag = K) : loopW body v = K := by
  subst hv
  have key : ∀ d n, n + d = N -> loopW body (st n) = K := by
    intro d
    induction d with
    | zero =>
      intro n hn
      have : n = N := by omega
      subst this
      exact loopW_stop he
    | succ d ih =>
      intro n hn
      rw [loopW_step (h n (by omega))]
      exact ih (n + 1) (by omega)
  exact key N 0 (by omega)
theorem sFold_I {R S : Type} (f : Nat -> S -> Sum R S) (N : Nat) (I : Nat -> S -> Prop) (Q : R -> Prop) (h : ∀ n s, n < N -> I n s -> (∀ r, f n s = .inl r -> Q r) /\ ∀ s', f n s = .inr s' -> I (n + 1) s') :
    ∀ (d n : Nat) (s : S), n + d = N -> I n s -> (∀ r, sFold f d n s = .inl r -> Q r) /\ ∀ s', sFold f d n s = .inr s' -> I N s'
  | 0, n, s, hn, hi => by
    have : n = N := by omega
    subst this
    refine ⟨fun r hr => (by cases hr), fun s' e => ?_⟩
    cases e
    exact hi
  | d + 1, n, s, hn, hi => by
    obtain ⟨h1, h2⟩ := h n s (by omega) hi
    simp only [sFold]
    cases hf : f n s with
    | inl q => exact ⟨fun r e => by cases e; exact h1 q hf, fun s' e => by cases e⟩
    | inr s' => exact sFold_I f N I Q h d (n + 1) s' (by omega) (h2 s' hf)
theorem mFold_I {S : Type} (f : Nat -> S -> Option S) (N : Nat) (I : S -> Prop) (h : ∀ n s s', n < N -> I s -> f n s = some s' -> I s') : ∀ (d n : Nat) (s s' : S), n + d = N -> I s -> mFold f d n s = some s' -> I s'
  | 0, n, s, s', hn, hi, e => by cases e; exact hi
  | d + 1, n, s, s', hn, hi, e => by
    simp only [mFold] at e
    split at e
    · rename_i s1 hs
      exact mFold_I f N I h d (n + 1) s1 s' (by omega) (h n s s1 (by omega) hi hs) e
    · cases e
def allWall (x : List ByteArray) : Prop := ∀ r c, r < x.length -> c < (List.getD x r eS).size -> bytesIdx (List.getD x r eS) (c : Int) = 35
theorem level_open {x : List ByteArray} (h : mLevel x = true) : ¬ allWall x := by
  intro ha
  have hf := mLevel_facts h
  unfold mLevel at h
  rw [Bool.and_eq_true, Bool.and_eq_true] at h
  obtain ⟨_, _, h3⟩ := h
  unfold mRows at h3
  split at h3
  · rename_i s hs
    have := mFold_I (mRowAt x (List.getD x 0 eS).size) x.length (fun s => s.1 = false) (fun r s s' hr hi e => by
      unfold mRowAt at e
      cases hq : ieql (slen (List.getD x r eS)) (((List.getD x 0 eS).size : Nat) : Int) with
      | false => rw [hq] at e; cases e
      | true =>
        rw [hq, cond_true] at e
        refine mFold_I (mTileAt x (List.getD x 0 eS).size r) (List.getD x 0 eS).size (fun s => s.1 = false) (fun c s s' hc hi e => ?_) _ 0 s s' (by omega) hi e
        unfold mTileAt mTile at e
        rw [ha r c hr (by rw [getD_lt hr, hf.2.2.2.2 r hr]; exact hc)] at e
        cases e
        exact hi) x.length 0 _ s (by omega) rfl hs
    rw [this] at h3
    cases h3
  · cases h3
def FreeAt (x : List ByteArray) (p : Int × Int) : Prop := ∃ r c : Nat, r < x.length /\ c < (List.getD x r eS).size /\ cf x r c = true /\ p = (16 * (c : Int) + 2, 16 * (r : Int) + 2)
theorem free_of {x : List ByteArray} {r c : Nat} (h1 : r < x.length) (h2 : c < (List.getD x r eS).size) (h : bytesIdx (List.getD x r eS) (c : Int) ≠ 35) : FreeAt x (16 * (c : Int) + 2, 16 * (r : Int) + 2) := by
  refine ⟨r, c, h1, h2, ?_, rfl⟩
  unfold cf
  rw [decide_eq_true h1, decide_eq_true h2, ineq_ne h]
  rfl
def StI (x : List ByteArray) (r c : Nat) (s : Int × Int) : Prop := (s = (-1, -1) /\ ∀ r' c', r' < x.length -> c' < (List.getD x r' eS).size -> r' < r \/ (r' = r /\ c' < c) -> bytesIdx (List.getD x r' eS) (c' : Int) = 35) \/ FreeAt x s
theorem start_free {x : List ByteArray} (h : mLevel x = true) {who : Int} (h0 : 0 <= who) (h3 : who <= 3) : FreeAt x (mStart x who) := by
  have key := sFold_I (mStartRow x who) x.length (fun r s => StI x r 0 s) (FreeAt x) (fun r s hr hi => by
    have := sFold_I (mStartTile x who r) (List.getD x r eS).size (fun c s => StI x r c s) (FreeAt x) (fun c s hc hi => by
      unfold mStartTile
      cases h1 : ieql (bytesIdx (List.getD x r eS) (c : Int)) (49 + who) with
      | true =>
        rw [cond_true]
        refine ⟨fun p e => ?_, fun s' e => by cases e⟩
        cases e
        have : bytesIdx (List.getD x r eS) (c : Int) = 49 + who := by simpa only [ieql, beq_iff_eq] using h1
        exact free_of hr hc (by omega)
      | false =>
        rw [cond_false]
        cases h2 : ineq (bytesIdx (List.getD x r eS) (c : Int)) 35 with
        | true =>
          have hne : bytesIdx (List.getD x r eS) (c : Int) ≠ 35 := by
            intro e
            rw [e] at h2
            cases h2
          cases h4 : ilss s.1 0 with
          | true =>
            refine ⟨fun p e => (by cases e), fun s' e => ?_⟩
            cases e
            exact .inr (free_of hr hc hne)
          | false =>
            refine ⟨fun p e => (by cases e), fun s' e => ?_⟩
            cases e
            rcases hi with ⟨e1, e2⟩ | hi
            · rw [e1] at h4; cases h4
            · exact .inr hi
        | false =>
          refine ⟨fun p e => (by cases e), fun s' e => ?_⟩
          cases e
          rcases hi with ⟨e1, e2⟩ | hi
          · refine .inl ⟨e1, fun r' c' h5 h6 h7 => ?_⟩
            by_cases h8 : r' = r /\ c' = c
            · obtain ⟨rfl, rfl⟩ := h8
              rw [ineq_not, Bool.not_eq_false'] at h2
              simpa only [ieql, beq_iff_eq] using h2
            · exact e2 r' c' h5 h6 (by omega)
          · exact .inr hi) (List.getD x r eS).size 0 s (by omega) hi
    refine ⟨this.1, fun s' e => ?_⟩
    rcases this.2 s' e with ⟨e1, e2⟩ | hj
    · exact .inl ⟨e1, fun r' c' h5 h6 h7 => e2 r' c' h5 h6 (by
        by_cases h8 : r' = r
        · subst h8; exact .inr ⟨rfl, h6⟩
        · omega)⟩
    · exact .inr hj) x.length 0 (-1, -1) (by omega) (.inl ⟨rfl, fun r' c' h5 h6 h7 => by omega⟩)
  unfold mStart
  rw [h, mIn_iff.2 ⟨h0, h3⟩, Bool.and_self, cond_true]
  split
  · rename_i p e
    exact key.1 p e
  · rename_i p e
    rcases key.2 p e with ⟨e1, e2⟩ | hj
    · exact absurd (fun r c hr hc => e2 r c hr hc (.inl hr)) (level_open h)
    · exact hj
theorem fresh_ok {x : List ByteArray} (h : mLevel x = true) {n i : Nat} (hi : i < n) (hn : n <= 4) : mBody x (n : Int) (mFresh x (i : Int)) = true := by
  obtain ⟨f1, f2, f3, f4, f5⟩ := mLevel_facts h
  obtain ⟨r, c, h1, h2, h3, h4⟩ := start_free h (who := (i : Int)) (by omega) (by omega)
  have hc : c < 20 := by rw [getD_lt h1, f5 _ h1] at h2; omega
  unfold mBody mFresh
  rw [h4]
  have hs : mSolid x (16 * (c : Int) + 2) (16 * (r : Int) + 2) (mSize 0) = false := by
    unfold mSolid
    have e1 : (mIn (16 * (c : Int) + 2) 0 1000 && mIn (16 * (r : Int) + 2) 0 1000) = true := by rw [Bool.and_eq_true, mIn_iff, mIn_iff]; omega
    rw [e1, cond_true, mSolidN_iff]
    intro r' c' q1 q2 q3 q4
    have hz : (mSize 0).toNat = 12 := rfl
    rw [hz] at q2 q4
    have : r' = r := by omega
    have : c' = c := by omega
    subst r' c'
    exact h3
  simp only [hs, mIn_iff.2 (⟨by omega, by omega⟩ : 0 <= (i : Int) /\ (i : Int) <= (n : Int) - 1)]
  rfl
theorem new_ok {x : List ByteArray} (h : mLevel x = true) {n : Nat} (h1 : 1 <= n) (h4 : n <= 4) {sd : Int} (hsd : mIn sd 0 65535 = true) : mWorld (mNewW x n sd) = true := by
  unfold mWorld mNewW
  simp only [h, hsd, Bool.and_eq_true, List.all_eq_true, List.mem_range, len, List.length_replicate, mNewBodies_len, mIn_iff]
  refine ⟨trivial, ⟨by decide, by decide⟩, trivial, by omega, fun s hs => ?_, by omega, fun i hi => ?_⟩
  · rw [List.eq_of_mem_replicate hs]
    rfl
  · have e : List.getD (mNewBodies x n) i dBody = mFresh x (i : Int) := by
      rw [getD_lt (by rw [mNewBodies_len]; exact hi)]
      unfold mNewBodies
      rw [List.getElem_map, List.getElem_range]
    unfold mBodyAt
    rw [e, fresh_ok h hi h4, decide_eq_true hi, cond_true]
    simp [mFresh, ieql]
theorem script_in {xs : List Int} {d t : Int} (h : mScript xs = true) (hd : mIn d 0 5 = true) (ht : 0 <= t) (ht2 : t <= 1000) : mIn (mScriptIn xs d t) 0 15 = true := by
  unfold mScriptIn
  have h0 : ilss t 0 = false := ilss_pos (by omega)
  rw [h, hd, h0]
  simp only [Bool.not_false, Bool.and_self, cond_true]
  cases h1 : ilss t d with
  | true => rfl
  | false =>
    rw [cond_false]
    obtain ⟨a1, a2, a3⟩ := script_at h hd h0 h1 (by omega)
    simp only [inb, Bool.and_eq_true, decide_eq_true_eq] at a3
    have hlt : (Int.tmod (t - d) (len xs)).toNat < xs.length := by simp only [len] at a3 ⊢; omega
    rw [getD_lt hlt]
    unfold mScript at h
    rw [Bool.and_eq_true] at h
    have h2 := h.2
    unfold mInputs at h2
    rw [List.all_eq_true] at h2
    exact h2 _ (List.getElem_mem hlt)
structure ScI (ss : List (List Int)) (d : Int) : Prop where
  n1 : 1 <= ss.length
  n4 : ss.length <= 4
  sm : ∀ s ∈ ss, s.length <= 1048576
  ok : ∀ s ∈ ss, mScript s = true
  dl : mIn d 0 5 = true
def mRowAt2 (ss : List (List Int)) (d : Int) (t : Nat) : List Int := ss.map (fun s => mScriptIn s d (t : Int))
def mRows2 (ss : List (List Int)) (d : Int) (n : Nat) : List (List Int) := (List.range n).map (mRowAt2 ss d)
theorem take_map {α β : Type} (f : α -> β) (xs : List α) (k : Nat) (h : k < xs.length) : (xs.take (k + 1)).map f = (xs.take k).map f ++ [f xs[k]] := by
  rw [List.take_succ_eq_append_getElem h, List.map_append]
  rfl
theorem mRows2_succ (ss : List (List Int)) (d : Int) (n : Nat) : mRows2 ss d (n + 1) = mRows2 ss d n ++ [mRowAt2 ss d n] := by
  unfold mRows2
  rw [List.range_succ, List.map_append]
  rfl
theorem mRows2_len (ss : List (List Int)) (d : Int) (n : Nat) : (mRows2 ss d n).length = n := by simp [mRows2]
theorem L_spec_ScriptRows {k : Nat} (hk : 5 <= k) (ss : List (List Int)) (d : Int) (n : Nat) (h : ScI ss d) (hn : n <= 400) : c_spec_ScriptRows (C k) (ss, d, (n : Int)) = some (mRows2 ss d n) := by
  obtain ⟨k, rfl⟩ := pk (by omega)
  rw [u_spec_ScriptRows]
  have q1 : mIn (len ss) 1 4 = true := by rw [mIn_iff]; simp only [len]; have := h.n1; have := h.n4; omega
  have q2 : mIn (n : Int) 0 400 = true := by rw [mIn_iff]; omega
  have hn4 := h.n4
  simp only [spec_ScriptRows, L_spec_l01In (k := k) (by omega), bnd_some, q1, q2, Bool.not_true, cond_false]
  refine loop_go n (fun t => (ss, d, (n : Int), (t : Int), mRows2 ss d t, ())) _ _ rfl (fun t ht ag => ?_) (fun ag => ?_)
  · have e2 : ilss (t : Int) (n : Int) = true := ilss_nat ht
    have e4 : w64 ((t : Int) + 1) = ((t + 1 : Nat) : Int) := w64_nsucc t (by omega)
    simp only [spec_ScriptRows_l0, e2, cond_true]
    refine loop_go ss.length (fun i => (ss, d, (n : Int), (t : Int), (i : Int), (ss.take i).map (fun s => mScriptIn s d (t : Int)), mRows2 ss d t, ())) _ _ (by simp) (fun i hi ag => ?_) (fun ag => ?_)
    · have e1 : inb (i : Int) (len ss) = true := inb_nat i hi
      have e3 : ilss (i : Int) (len ss) = true := ilss_nat hi
      have e5 : w64 ((i : Int) + 1) = ((i + 1 : Nat) : Int) := w64_nsucc i (by omega)
      have hm := List.getElem_mem hi
      have hin := mIn_iff.1 (script_in (h.ok _ hm) h.dl (t := (t : Int)) (by omega) (by omega))
      have e6 : ilss (mScriptIn ss[i] d (t : Int)) 0 = false := ilss_pos (by omega)
      simp only [spec_ScriptRows_l2, Int.toNat_natCast, e1, e3, e5, cond_true, ck_true, getD_lt hi, L_spec_ScriptInput (k := k) (by omega) _ d (t : Int) (h.sm _ hm) (by omega), bnd_some, e6, cond_false, take_map _ _ _ hi]
      rw [ck_of (room_le _ _ _ (by rw [List.length_map, List.length_take]; simp only [List.length_cons, List.length_nil]; omega))]
    · have e3 : ilss (ss.length : Int) (len ss) = false := ilss_end _
      simp only [spec_ScriptRows_l2, e3, cond_false, List.take_length, e4]
      rw [ck_of (room_le _ _ _ (by rw [mRows2_len]; simp only [List.length_cons, List.length_nil]; omega)), mRows2_succ]
      rfl
  · have e2 : ilss (n : Int) (n : Int) = false := ilss_end _
    simp only [spec_ScriptRows_l0, e2, cond_false]
theorem L_impl_ScriptRows {k : Nat} (hk : 6 <= k) (ss : List (List Int)) (d : Int) (n : Nat) (h : ScI ss d) (hn : n <= 400) : c_impl_ScriptRows (C k) (ss, d, (n : Int)) = some (mRows2 ss d n) := by
  obtain ⟨k, rfl⟩ := pk (by omega)
  rw [u_impl_ScriptRows]
  have hn1 := h.n1
  have hn4 := h.n4
  have q1 : ilss (len ss) 1 = false := by simp only [ilss, len, decide_eq_false_iff_not]; omega
  have q3 : igtr (len ss) 4 = false := by simp only [igtr, len, decide_eq_false_iff_not]; omega
  have q2 : mIn (n : Int) 0 400 = true := by rw [mIn_iff]; omega
  simp only [impl_ScriptRows, L_impl_between (k := k) (by omega), bnd_some, q1, q2, q3, Bool.not_true, cond_false]
  refine loop_go ss.length (fun i => (ss, d, (n : Int), ss, len ss, (i : Int), ())) _ _ rfl (fun i hi ag => ?_) (fun ag => ?_)
  · have e1 : inb (i : Int) (len ss) = true := inb_nat i hi
    have e3 : ilss (i : Int) (len ss) = true := ilss_nat hi
    have e5 : w64 ((i : Int) + 1) = ((i + 1 : Nat) : Int) := w64_nsucc i (by omega)
    have hm := List.getElem_mem hi
    have hin := mIn_iff.1 (script_in (h.ok _ hm) h.dl (t := 0) (by omega) (by omega))
    have e6 : ilss (mScriptIn ss[i] d 0) 0 = false := ilss_pos (by omega)
    simp only [impl_ScriptRows_l0, Int.toNat_natCast, e1, e3, e5, cond_true, ck_true, getD_lt hi, L_impl_ScriptInput (k := k) (by omega) _ d 0 (h.sm _ hm) (by omega), bnd_some, e6, cond_false]
  · have e3 : ilss (ss.length : Int) (len ss) = false := ilss_end _
    simp only [impl_ScriptRows_l0, e3, cond_false]
    refine loop_go n (fun t => (ss, d, (n : Int), (t : Int), mRows2 ss d t, ())) _ _ rfl (fun t ht ag => ?_) (fun ag => ?_)
    · have e2 : ilss (t : Int) (n : Int) = true := ilss_nat ht
      have e4 : w64 ((t : Int) + 1) = ((t + 1 : Nat) : Int) := w64_nsucc t (by omega)
      simp only [impl_ScriptRows_l2, e2, cond_true]
      refine loop_go ss.length (fun i => (ss, d, (n : Int), (t : Int), ss, len ss, (i : Int), (ss.take i).map (fun s => mScriptIn s d (t : Int)), mRows2 ss d t, ())) _ _ (by simp) (fun i hi ag => ?_) (fun ag => ?_)
      · have e1 : inb (i : Int) (len ss) = true := inb_nat i hi
        have e3 : ilss (i : Int) (len ss) = true := ilss_nat hi
        have e5 : w64 ((i : Int) + 1) = ((i + 1 : Nat) : Int) := w64_nsucc i (by omega)
        have hm := List.getElem_mem hi
        simp only [impl_ScriptRows_l4, Int.toNat_natCast, e1, e3, e5, cond_true, ck_true, getD_lt hi, L_impl_ScriptInput (k := k) (by omega) _ d (t : Int) (h.sm _ hm) (by omega), bnd_some, take_map _ _ _ hi]
        rw [ck_of (room_le _ _ _ (by rw [List.length_map, List.length_take]; simp only [List.length_cons, List.length_nil]; omega))]
      · have e3 : ilss (ss.length : Int) (len ss) = false := ilss_end _
        simp only [impl_ScriptRows_l4, e3, cond_false, List.take_length, e4]
        rw [ck_of (room_le _ _ _ (by rw [mRows2_len]; simp only [List.length_cons, List.length_nil]; omega)), mRows2_succ]
        rfl
    · have e2 : ilss (n : Int) (n : Int) = false := ilss_end _
      simp only [impl_ScriptRows_l2, e2, cond_false]
def mFStep (w : TWorld) (row : List Int) (f : TFault) : TWorld :=
  bif mFault f (len w.2.2.2.1) && (ieql (mStep w row).2.1 f.1 && igtr f.1 w.2.1) then
    ((mStep w row).1, (mStep w row).2.1, (mStep w row).2.2.1, (mStep w row).2.2.2.1.set f.2.1.toNat (imin (w64 (List.getD (mStep w row).2.2.2.1 f.2.1.toNat 0 + f.2.2)) 1000000), (mStep w row).2.2.2.2)
  else mStep w row
theorem fault_at {w : TWorld} {row : List Int} {f : TFault} (hS : SmW w) (h : mFault f (len w.2.2.2.1) = true) : inb f.2.1 (len (mStep w row).2.2.2.1) = true := by
  unfold mFault at h
  rw [Bool.and_eq_true, Bool.and_eq_true, mIn_iff, mIn_iff] at h
  have hl := (mStep_facts (row := row) hS).2.1
  simp only [inb, len, Bool.and_eq_true, decide_eq_true_eq, hl]
  have := h.2.1
  simp only [len] at this
  omega
theorem L_spec_FaultyStep {k : Nat} (hk : 8 <= k) (w : TWorld) (hS : SmW w) (row : List Int) (hr : row.length <= 1048576) (f : TFault) : c_spec_FaultyStep (C k) (w, row, f) = some (mFStep w row f) := by
  obtain ⟨k, rfl⟩ := pk (by omega)
  rw [u_spec_FaultyStep]
  have hs := hS.s
  simp only [spec_FaultyStep, L_spec_StepWorld (k := k) (by omega) w hS row hr, bnd_some, L_spec_FaultOk (k := k) (by omega) f (len w.2.2.2.1) (by simp only [len]; omega) (by simp only [len]; omega), some_bif, mFStep]
  cases h : mFault f (len w.2.2.2.1) with
  | false => rfl
  | true =>
    have e := fault_at (row := row) hS h
    cases ieql (mStep w row).2.1 f.1 <;> cases igtr f.1 w.2.1 <;> first | rfl | (simp only [cond_true, e, ck_true, Bool.and_self]; done)
theorem L_impl_FaultyStep {k : Nat} (hk : 9 <= k) (w : TWorld) (hS : SmW w) (row : List Int) (hr : row.length <= 1048576) (f : TFault) : c_impl_FaultyStep (C k) (w, row, f) = some (mFStep w row f) := by
  obtain ⟨k, rfl⟩ := pk (by omega)
  rw [u_impl_FaultyStep]
  simp only [impl_FaultyStep, L_impl_StepWorld (k := k) (by omega) w hS row hr, bnd_some, L_impl_FaultOk (k := k) (by omega) f, some_bif, mFStep, ineq_not]
  cases h : mFault f (len w.2.2.2.1) with
  | false => rfl
  | true =>
    have e := fault_at (row := row) hS h
    cases h1 : ieql (mStep w row).2.1 f.1 with
    | false => rfl
    | true =>
      have h2 : (mStep w row).2.1 = f.1 := by simpa only [ieql, beq_iff_eq] using h1
      rw [h2, igtr_not]
      cases ileq f.1 w.2.1 <;> first | rfl | (simp only [cond_false, Bool.not_true, Bool.not_false, cond_true, e, ck_true, Bool.and_self, h2]; done)
theorem mFStep_sm {w : TWorld} (hS : SmW w) (row : List Int) (f : TFault) : SmW (mFStep w row f) /\ (mFStep w row f).2.2.2.1.length = w.2.2.2.1.length := by
  obtain ⟨h1, h2, _⟩ := mStep_facts (row := row) hS
  unfold mFStep
  cases mFault f (len w.2.2.2.1) && (ieql (mStep w row).2.1 f.1 && igtr f.1 w.2.1) with
  | false => exact ⟨h1, h2⟩
  | true => exact ⟨⟨h1.r, by rw [cond_true]; simp only [List.length_set]; exact h1.s, h1.b⟩, by rw [cond_true]; simp only [List.length_set]; exact h2⟩
end Go.Proofs.YtaflceohlijekaaGreat.Ev
namespace Go.Proofs.YtaflceohlijekaaGreat.Ev
def pLead (x : TPeer) : Int := w64 (x.2.2.2.2.2.2.1.2.1 - x.2.2.2.2.2.1.2.1)
def mPeer3 (x : TPeer) : Bool := x.2.2.2.2.2.2.2.1.all (fun r => mRow r (len x.2.2.2.2.1)) && ((List.range x.2.2.2.2.2.2.2.2.1.length).all (fun i => ieql (List.getD x.2.2.2.2.2.2.2.2.1 i dSave).1 (w64 (x.2.2.2.2.2.1.2.1 + (i : Int)))) &&
  (ileq x.2.2.2.2.2.1.2.1 (mKnown x.2.2.2.2.1) && (igeq (len (List.getD x.2.2.2.2.1 x.1.toNat [])) x.2.2.2.2.2.2.1.2.1 && ieql (len x.2.2.2.2.2.2.2.2.2.1) (w64 (x.2.2.2.2.2.1.2.1 + 1)))))
def mPeer2 (x : TPeer) : Bool := mIn x.1 0 (w64 (len x.2.2.2.2.1 - 1)) && (mIn x.2.1 0 5 && (mIn x.2.2.1 1 8 && (mIn x.2.2.2.1 0 65535 && (mIn x.2.2.2.2.2.2.2.2.2.2.2.1 0 1000000 && (mIn x.2.2.2.2.2.2.2.2.2.2.2.2 0 1000000 &&
  (mIn (pLead x) 0 x.2.2.1 && (ieql (len x.2.2.2.2.2.2.2.1) (pLead x) && (ieql (len x.2.2.2.2.2.2.2.2.1) (pLead x) && mPeer3 x))))))))
def mPeer (x : TPeer) : Bool := mWorld x.2.2.2.2.2.1 && (mWorld x.2.2.2.2.2.2.1 && (mEqL seq x.2.2.2.2.2.1.1 x.2.2.2.2.2.2.1.1 && (ieql (len x.2.2.2.2.2.1.2.2.2.1) (len x.2.2.2.2.1) && (ieql (len x.2.2.2.2.2.2.1.2.2.2.1) (len x.2.2.2.2.1) && (mTracks x.2.2.2.2.1 && (mFault x.2.2.2.2.2.2.2.2.2.2.1 (len x.2.2.2.2.1) && mPeer2 x))))))
structure SmP (x : TPeer) : Prop where
  t : x.2.2.2.2.1.length <= 1048576
  tt : ∀ r ∈ x.2.2.2.2.1, r.length <= 1048576
  b : SmW x.2.2.2.2.2.1
  n : SmW x.2.2.2.2.2.2.1
  u : x.2.2.2.2.2.2.2.1.length <= 1048576
  uu : ∀ r ∈ x.2.2.2.2.2.2.2.1, r.length <= 1048576
  s : x.2.2.2.2.2.2.2.2.1.length <= 1048576
theorem SmW_of {w : TWorld} (h : small 1048576 SWorld w) : SmW w := ⟨h.1.1, h.2.2.2.1.1, h.2.2.2.2.1⟩
theorem SmP_of {x : TPeer} (h : small 1048576 SPeer x) : SmP x := by
  obtain ⟨_, _, _, _, h1, h2, h3, h4, h5, _⟩ := h
  exact ⟨h1.1, fun r hr => (h1.2 r hr).1, SmW_of h2, SmW_of h3, h4.1, fun r hr => (h4.2 r hr).1, h5.1⟩
theorem all_split {α : Type} (xs : List α) (d : α) (p : α -> Bool) (q : Nat -> Bool) : (List.range xs.length).all (fun i => p (List.getD xs i d) && q i) = (xs.all p && (List.range xs.length).all q) := by
  rw [Bool.eq_iff_iff, Bool.and_eq_true, List.all_eq_true, List.all_eq_true, List.all_eq_true]
  constructor
  · intro h
    refine ⟨fun a ha => ?_, fun i hi => ?_⟩
    · obtain ⟨i, hi, rfl⟩ := List.getElem_of_mem ha
      have := h i (List.mem_range.2 hi)
      rw [Bool.and_eq_true, getD_lt hi] at this
      exact this.1
    · have := h i hi
      rw [Bool.and_eq_true] at this
      exact this.2
  · rintro ⟨h1, h2⟩ i hi
    rw [Bool.and_eq_true]
    refine ⟨?_, h2 i hi⟩
    rw [getD_lt (List.mem_range.1 hi)]
    exact h1 _ (List.getElem_mem _)
theorem getD_P {α : Type} {xs : List α} {d : α} {P : α -> Prop} (h : ∀ a ∈ xs, P a) (hd : P d) (i : Nat) : P (List.getD xs i d) := by
  by_cases hi : i < xs.length
  · rw [getD_lt hi]
    exact h _ (List.getElem_mem hi)
  · rw [List.getD_eq_getElem?_getD, List.getElem?_eq_none (by omega)]
    exact hd
theorem me_in {x : TPeer} (ht : mTracks x.2.2.2.2.1 = true) (h : mIn x.1 0 (w64 (len x.2.2.2.2.1 - 1)) = true) : inb x.1 (len x.2.2.2.2.1) = true := by
  have := mTracks_pos ht
  rw [mIn_iff] at h
  simp only [len] at h
  rw [w64_id (by omega) (by omega)] at h
  simp only [inb, len, Bool.and_eq_true, decide_eq_true_eq]
  omega
theorem L_spec_PeerOk {k : Nat} (hk : 6 <= k) (x : TPeer) (hs : SmP x) : c_spec_PeerOk (C k) x = some (mPeer x) := by
  obtain ⟨k, rfl⟩ := pk (by omega)
  rw [u_spec_PeerOk]
  have ht := hs.t
  simp only [spec_PeerOk, L_spec_WorldOk (k := k) (by omega), L_spec_l02SameLevel (k := k) (by omega) _ _ hs.b.r, L_spec_TracksOk (k := k) (by omega) x.2.2.2.2.1 hs.t hs.tt, L_spec_FaultOk (k := k) (by omega) x.2.2.2.2.2.2.2.2.2.2.1 (len x.2.2.2.2.1) (by simp only [len]; omega) (by simp only [len]; omega), L_spec_l01In (k := k) (by omega), bnd_some, some_bif, ineq_not, mPeer, mPeer2]
  rw [show w64 (x.2.2.2.2.2.2.1.2.1 - x.2.2.2.2.2.1.2.1) = pLead x from rfl]
  cases a1 : mWorld x.2.2.2.2.2.1 with
  | false => first | rfl | simp
  | true =>
    cases a2 : mWorld x.2.2.2.2.2.2.1 with
    | false => first | rfl | simp
    | true =>
      cases a3 : mEqL seq x.2.2.2.2.2.1.1 x.2.2.2.2.2.2.1.1 with
      | false => first | rfl | simp
      | true =>
        cases a4 : ieql (len x.2.2.2.2.2.1.2.2.2.1) (len x.2.2.2.2.1) with
        | false => first | rfl | simp
        | true =>
          cases a5 : ieql (len x.2.2.2.2.2.2.1.2.2.2.1) (len x.2.2.2.2.1) with
          | false => first | rfl | simp
          | true =>
            cases a6 : mTracks x.2.2.2.2.1 with
            | false => first | rfl | simp
            | true =>
              cases a7 : mFault x.2.2.2.2.2.2.2.2.2.2.1 (len x.2.2.2.2.1) with
              | false => first | rfl | simp
              | true =>
                cases b1 : mIn x.1 0 (w64 (len x.2.2.2.2.1 - 1)) with
                | false => first | rfl | simp
                | true =>
                  cases b2 : mIn x.2.1 0 5 with
                  | false => first | rfl | simp
                  | true =>
                    cases b3 : mIn x.2.2.1 1 8 with
                    | false => first | rfl | simp
                    | true =>
                      cases b4 : mIn x.2.2.2.1 0 65535 with
                      | false => first | rfl | simp
                      | true =>
                        cases b5 : mIn x.2.2.2.2.2.2.2.2.2.2.2.1 0 1000000 with
                        | false => first | rfl | simp
                        | true =>
                          cases b6 : mIn x.2.2.2.2.2.2.2.2.2.2.2.2 0 1000000 with
                          | false => first | rfl | simp
                          | true =>
                            cases b7 : mIn (pLead x) 0 x.2.2.1 with
                            | false => first | rfl | simp
                            | true =>
                              cases b8 : ieql (len x.2.2.2.2.2.2.2.1) (pLead x) with
                              | false => first | rfl | simp
                              | true =>
                                cases b9 : ieql (len x.2.2.2.2.2.2.2.2.1) (pLead x) with
                                | false => first | rfl | simp
                                | true =>
                                  have h8 : len x.2.2.2.2.2.2.2.1 = pLead x := by simpa only [ieql, beq_iff_eq] using b8
                                  have e8 : pLead x = (x.2.2.2.2.2.2.2.1.length : Int) := h8.symm
                                  have e9 : x.2.2.2.2.2.2.2.2.1.length = x.2.2.2.2.2.2.2.1.length := by
                                    have : len x.2.2.2.2.2.2.2.2.1 = pLead x := by simpa only [ieql, beq_iff_eq] using b9
                                    rw [e8] at this
                                    simp only [len] at this
                                    omega
                                  have hul := hs.u
                                  have hm : x.2.2.2.2.2.2.2.1.length <= maxLen := Nat.le_trans hs.u (by decide)
                                  simp only [Bool.not_true, cond_false, Bool.true_and, e8]
                                  refine (loop_allN x.2.2.2.2.2.2.2.1.length (fun i => (len x.2.2.2.2.1, (x.2.2.2.2.2.2.2.1.length : Int), (i : Int), x.1, x.2.1, x.2.2.1, x.2.2.2.1, x.2.2.2.2.1, x.2.2.2.2.2.1.1, x.2.2.2.2.2.1.2.1, x.2.2.2.2.2.1.2.2.1, x.2.2.2.2.2.1.2.2.2.1, x.2.2.2.2.2.1.2.2.2.2, x.2.2.2.2.2.2.1.1, x.2.2.2.2.2.2.1.2.1, x.2.2.2.2.2.2.1.2.2.1, x.2.2.2.2.2.2.1.2.2.2.1, x.2.2.2.2.2.2.1.2.2.2.2, x.2.2.2.2.2.2.2.1, x.2.2.2.2.2.2.2.2.1, x.2.2.2.2.2.2.2.2.2.1, x.2.2.2.2.2.2.2.2.2.2.1.1, x.2.2.2.2.2.2.2.2.2.2.1.2.1, x.2.2.2.2.2.2.2.2.2.2.1.2.2, x.2.2.2.2.2.2.2.2.2.2.2.1, x.2.2.2.2.2.2.2.2.2.2.2.2, ())) (fun i => mRow (List.getD x.2.2.2.2.2.2.2.1 i []) (len x.2.2.2.2.1) && ieql (List.getD x.2.2.2.2.2.2.2.2.1 i dSave).1 (w64 (x.2.2.2.2.2.1.2.1 + (i : Int)))) false ?K (fun i hi ag => ?h) (fun ag => ?e)).trans ?r
                                  case e =>
                                    have e2 : ilss (x.2.2.2.2.2.2.2.1.length : Int) (x.2.2.2.2.2.2.2.1.length : Int) = false := ilss_end _
                                    simp only [spec_PeerOk_l0, e2, cond_false]
                                    rfl
                                  case h =>
                                    have e1 : inb (i : Int) (len x.2.2.2.2.2.2.2.1) = true := inb_nat i hi
                                    have e1' : inb (i : Int) (len x.2.2.2.2.2.2.2.2.1) = true := inb_nat i (by omega)
                                    have e2 : ilss (i : Int) (x.2.2.2.2.2.2.2.1.length : Int) = true := ilss_nat hi
                                    have e4 : w64 ((i : Int) + 1) = ((i + 1 : Nat) : Int) := w64_succ hi hm
                                    have hrow : (List.getD x.2.2.2.2.2.2.2.1 i []).length <= 1048576 := getD_P (P := fun (r : List Int) => r.length <= 1048576) hs.uu (by simp) i
                                    simp only [spec_PeerOk_l0, Int.toNat_natCast, e1, e1', e2, e4, cond_true, ck_true, L_spec_l02RowOk (k := k) (by omega) _ (len x.2.2.2.2.1) hrow, bnd_some, some_bif, ineq_not]
                                    cases mRow (List.getD x.2.2.2.2.2.2.2.1 i []) (len x.2.2.2.2.1) <;> cases ieql (List.getD x.2.2.2.2.2.2.2.2.1 i dSave).1 (w64 (x.2.2.2.2.2.1.2.1 + (i : Int))) <;> rfl
                                  case r =>
                                    have em := me_in a6 b1
                                    simp only [L_spec_KnownTicks (k := k) (by omega) x.2.2.2.2.1 hs.t hs.tt, bnd_some, em, ck_true, some_bif]
                                    rw [all_split x.2.2.2.2.2.2.2.1 [] (fun r => mRow r (len x.2.2.2.2.1)), mPeer3, e9]
                                    cases x.2.2.2.2.2.2.2.1.all (fun r => mRow r (len x.2.2.2.2.1)) <;> cases (List.range x.2.2.2.2.2.2.2.1.length).all (fun i => ieql (List.getD x.2.2.2.2.2.2.2.2.1 i dSave).1 (w64 (x.2.2.2.2.2.1.2.1 + (i : Int)))) <;> cases ileq x.2.2.2.2.2.1.2.1 (mKnown x.2.2.2.2.1) <;> cases igeq (len (List.getD x.2.2.2.2.1 x.1.toNat [])) x.2.2.2.2.2.2.1.2.1 <;> rfl
theorem L_impl_PeerOk {k : Nat} (hk : 6 <= k) (x : TPeer) (hs : SmP x) : c_impl_PeerOk (C k) x = some (mPeer x) := by
  obtain ⟨k, rfl⟩ := pk (by omega)
  rw [u_impl_PeerOk]
  have ht := hs.t
  simp only [impl_PeerOk, L_impl_WorldOk (k := k) (by omega), L_impl_sameLevel (k := k) (by omega) _ _ hs.b.r, L_impl_TracksOk (k := k) (by omega) x.2.2.2.2.1 hs.t hs.tt, L_impl_FaultOk (k := k) (by omega) x.2.2.2.2.2.2.2.2.2.2.1 (len x.2.2.2.2.1), L_impl_between (k := k) (by omega), bnd_some, some_bif, ineq_not, mPeer, mPeer2]
  rw [show w64 (x.2.2.2.2.2.2.1.2.1 - x.2.2.2.2.2.1.2.1) = pLead x from rfl]
  cases a1 : mWorld x.2.2.2.2.2.1 with
  | false => first | rfl | (simp; done) | (cases mTracks x.2.2.2.2.1 <;> first | rfl | simp)
  | true =>
    cases a2 : mWorld x.2.2.2.2.2.2.1 with
    | false => first | rfl | (simp; done) | (cases mTracks x.2.2.2.2.1 <;> first | rfl | simp)
    | true =>
      cases a3 : mEqL seq x.2.2.2.2.2.1.1 x.2.2.2.2.2.2.1.1 with
      | false => first | rfl | (simp; done) | (cases mTracks x.2.2.2.2.1 <;> first | rfl | simp)
      | true =>
        cases a4 : ieql (len x.2.2.2.2.2.1.2.2.2.1) (len x.2.2.2.2.1) with
        | false => first | rfl | (simp; done) | (cases mTracks x.2.2.2.2.1 <;> first | rfl | simp)
        | true =>
          cases a5 : ieql (len x.2.2.2.2.2.2.1.2.2.2.1) (len x.2.2.2.2.1) with
          | false => first | rfl | (simp; done) | (cases mTracks x.2.2.2.2.1 <;> first | rfl | simp)
          | true =>
            cases a6 : mTracks x.2.2.2.2.1 with
            | false => first | rfl | (simp; done) | (cases mTracks x.2.2.2.2.1 <;> first | rfl | simp)
            | true =>
              cases a7 : mFault x.2.2.2.2.2.2.2.2.2.2.1 (len x.2.2.2.2.1) with
              | false => first | rfl | (simp; done) | (cases mTracks x.2.2.2.2.1 <;> first | rfl | simp)
              | true =>
                cases b1 : mIn x.1 0 (w64 (len x.2.2.2.2.1 - 1)) with
                | false => first | rfl | (simp; done) | (cases mTracks x.2.2.2.2.1 <;> first | rfl | simp)
                | true =>
                  cases b2 : mIn x.2.1 0 5 with
                  | false => first | rfl | (simp; done) | (cases mTracks x.2.2.2.2.1 <;> first | rfl | simp)
                  | true =>
                    cases b3 : mIn x.2.2.1 1 8 with
                    | false => first | rfl | (simp; done) | (cases mTracks x.2.2.2.2.1 <;> first | rfl | simp)
                    | true =>
                      cases b4 : mIn x.2.2.2.1 0 65535 with
                      | false => first | rfl | (simp; done) | (cases mTracks x.2.2.2.2.1 <;> first | rfl | simp)
                      | true =>
                        cases b5 : mIn x.2.2.2.2.2.2.2.2.2.2.2.1 0 1000000 with
                        | false => first | rfl | (simp; done) | (cases mTracks x.2.2.2.2.1 <;> first | rfl | simp)
                        | true =>
                          cases b6 : mIn x.2.2.2.2.2.2.2.2.2.2.2.2 0 1000000 with
                          | false => first | rfl | (simp; done) | (cases mTracks x.2.2.2.2.1 <;> first | rfl | simp)
                          | true =>
                            cases b7 : mIn (pLead x) 0 x.2.2.1 with
                            | false => first | rfl | (simp; done) | (cases mTracks x.2.2.2.2.1 <;> first | rfl | simp)
                            | true =>
                              cases b8 : ieql (len x.2.2.2.2.2.2.2.1) (pLead x) with
                              | false => first | rfl | (simp; done) | (cases mTracks x.2.2.2.2.1 <;> first | rfl | simp)
                              | true =>
                                cases b9 : ieql (len x.2.2.2.2.2.2.2.2.1) (pLead x) with
                                | false => first | rfl | (simp; done) | (cases mTracks x.2.2.2.2.1 <;> first | rfl | simp)
                                | true =>
                                  have h8 : len x.2.2.2.2.2.2.2.1 = pLead x := by simpa only [ieql, beq_iff_eq] using b8
                                  have e8 : pLead x = (x.2.2.2.2.2.2.2.1.length : Int) := h8.symm
                                  have e9 : x.2.2.2.2.2.2.2.2.1.length = x.2.2.2.2.2.2.2.1.length := by
                                    have : len x.2.2.2.2.2.2.2.2.1 = pLead x := by simpa only [ieql, beq_iff_eq] using b9
                                    rw [e8] at this
                                    simp only [len] at this
                                    omega
                                  have hul := hs.u
                                  have hm : x.2.2.2.2.2.2.2.1.length <= maxLen := Nat.le_trans hs.u (by decide)
                                  simp only [Bool.not_true, cond_false, Bool.true_and]
                                  refine (loop_all0 x.2.2.2.2.2.2.2.1 (fun i => (len x.2.2.2.2.1, x.2.2.2.2.2.2.2.1, len x.2.2.2.2.2.2.2.1, (i : Int), x.1, x.2.1, x.2.2.1, x.2.2.2.1, x.2.2.2.2.1, x.2.2.2.2.2.1.1, x.2.2.2.2.2.1.2.1, x.2.2.2.2.2.1.2.2.1, x.2.2.2.2.2.1.2.2.2.1, x.2.2.2.2.2.1.2.2.2.2, x.2.2.2.2.2.2.1.1, x.2.2.2.2.2.2.1.2.1, x.2.2.2.2.2.2.1.2.2.1, x.2.2.2.2.2.2.1.2.2.2.1, x.2.2.2.2.2.2.1.2.2.2.2, x.2.2.2.2.2.2.2.1, x.2.2.2.2.2.2.2.2.1, x.2.2.2.2.2.2.2.2.2.1, x.2.2.2.2.2.2.2.2.2.2.1.1, x.2.2.2.2.2.2.2.2.2.2.1.2.1, x.2.2.2.2.2.2.2.2.2.2.1.2.2, x.2.2.2.2.2.2.2.2.2.2.2.1, x.2.2.2.2.2.2.2.2.2.2.2.2, ())) (fun r => mRow r (len x.2.2.2.2.1)) false ?K (fun i hi ag => ?h) (fun ag => ?e)).trans ?r
                                  case e =>
                                    have e2 : ilss (x.2.2.2.2.2.2.2.1.length : Int) (len x.2.2.2.2.2.2.2.1) = false := ilss_end _
                                    simp only [impl_PeerOk_l0, e2, cond_false]
                                    rfl
                                  case h =>
                                    have e1 : inb (i : Int) (len x.2.2.2.2.2.2.2.1) = true := inb_nat i hi
                                    have e2 : ilss (i : Int) (len x.2.2.2.2.2.2.2.1) = true := ilss_nat hi
                                    have e4 : w64 ((i : Int) + 1) = ((i + 1 : Nat) : Int) := w64_succ hi hm
                                    simp only [impl_PeerOk_l0, Int.toNat_natCast, e1, e2, e4, cond_true, ck_true, getD_lt hi, L_impl_rowOk (k := k) (by omega) _ (len x.2.2.2.2.1) (hs.uu _ (List.getElem_mem hi)), bnd_some]
                                    cases mRow x.2.2.2.2.2.2.2.1[i] (len x.2.2.2.2.1) <;> rfl
                                  case r =>
                                    unfold mPeer3
                                    cases hU : x.2.2.2.2.2.2.2.1.all (fun r => mRow r (len x.2.2.2.2.1)) with
                                    | false => rfl
                                    | true =>
                                      rw [cond_true]
                                      refine (loop_allN x.2.2.2.2.2.2.2.2.1.length (fun i => (x.2.2.2.2.2.2.2.2.1, len x.2.2.2.2.2.2.2.2.1, (i : Int), x.1, x.2.1, x.2.2.1, x.2.2.2.1, x.2.2.2.2.1, x.2.2.2.2.2.1.1, x.2.2.2.2.2.1.2.1, x.2.2.2.2.2.1.2.2.1, x.2.2.2.2.2.1.2.2.2.1, x.2.2.2.2.2.1.2.2.2.2, x.2.2.2.2.2.2.1.1, x.2.2.2.2.2.2.1.2.1, x.2.2.2.2.2.2.1.2.2.1, x.2.2.2.2.2.2.1.2.2.2.1, x.2.2.2.2.2.2.1.2.2.2.2, x.2.2.2.2.2.2.2.1, x.2.2.2.2.2.2.2.2.1, x.2.2.2.2.2.2.2.2.2.1, x.2.2.2.2.2.2.2.2.2.2.1.1, x.2.2.2.2.2.2.2.2.2.2.1.2.1, x.2.2.2.2.2.2.2.2.2.2.1.2.2, x.2.2.2.2.2.2.2.2.2.2.2.1, x.2.2.2.2.2.2.2.2.2.2.2.2, ())) (fun i => ieql (List.getD x.2.2.2.2.2.2.2.2.1 i dSave).1 (w64 (x.2.2.2.2.2.1.2.1 + (i : Int)))) false ?K2 (fun i hi ag => ?h2) (fun ag => ?e2)).trans ?r2
                                      case e2 =>
                                        have e2 : ilss (x.2.2.2.2.2.2.2.2.1.length : Int) (len x.2.2.2.2.2.2.2.2.1) = false := ilss_end _
                                        simp only [impl_PeerOk_l2, e2, cond_false]
                                        rfl
                                      case h2 =>
                                        have e1 : inb (i : Int) (len x.2.2.2.2.2.2.2.2.1) = true := inb_nat i hi
                                        have e2 : ilss (i : Int) (len x.2.2.2.2.2.2.2.2.1) = true := ilss_nat hi
                                        have e4 : w64 ((i : Int) + 1) = ((i + 1 : Nat) : Int) := w64_succ hi (by rw [e9]; exact hm)
                                        simp only [impl_PeerOk_l2, Int.toNat_natCast, e1, e2, e4, cond_true, ck_true, ineq_not]
                                        cases ieql (List.getD x.2.2.2.2.2.2.2.2.1 i dSave).1 (w64 (x.2.2.2.2.2.1.2.1 + (i : Int))) <;> rfl
                                      case r2 =>
                                        have em := me_in a6 b1
                                        simp only [L_impl_KnownTicks (k := k) (by omega) x.2.2.2.2.1 hs.t hs.tt, bnd_some, em, ck_true, some_bif, Bool.true_and]
                                        cases (List.range x.2.2.2.2.2.2.2.2.1.length).all (fun i => ieql (List.getD x.2.2.2.2.2.2.2.2.1 i dSave).1 (w64 (x.2.2.2.2.2.1.2.1 + (i : Int)))) <;> cases ileq x.2.2.2.2.2.1.2.1 (mKnown x.2.2.2.2.1) <;> cases igeq (len (List.getD x.2.2.2.2.1 x.1.toNat [])) x.2.2.2.2.2.2.1.2.1 <;> rfl
end Go.Proofs.YtaflceohlijekaaGreat.Ev
namespace Go.Proofs.YtaflceohlijekaaGreat.Ev
def peerC (m : TMatch) (i : Nat) : Bool := mPeer (List.getD m.2.2.2.2.1 i dPeer) && (ieql (List.getD m.2.2.2.2.1 i dPeer).1 (i : Int) && (mEqL seq (List.getD m.2.2.2.2.1 i dPeer).2.2.2.2.2.1.1 m.1 && (ieql (List.getD m.2.2.2.2.1 i dPeer).2.2.2.1 m.2.1 &&
  (ieql (List.getD m.2.2.2.2.1 i dPeer).2.1 m.2.2.1 && ieql (len (List.getD m.2.2.2.2.1 i dPeer).2.2.2.2.1) (len m.2.2.2.1)))))
def watchC (m : TMatch) (i : Nat) : Bool := mWire (List.getD m.2.2.2.2.2.2.2.2.2.2.1 i dWire) && (mWorld (List.getD m.2.2.2.2.2.2.2.2.2.1 i dSpectator).1 && (mEqL seq (List.getD m.2.2.2.2.2.2.2.2.2.1 i dSpectator).1.1 m.1 && ieql (len (List.getD m.2.2.2.2.2.2.2.2.2.1 i dSpectator).1.2.2.2.1) (len m.2.2.2.1)))
def cellC (m : TMatch) (i j : Nat) : Bool := mWire (List.getD (List.getD m.2.2.2.2.2.1 i []) j dWire) && (mPace (List.getD (List.getD m.2.2.2.2.2.2.1 i []) j dPace) && mIn (List.getD (List.getD m.2.2.2.2.2.2.2.1 i []) j 0) 0 (len (List.getD (List.getD m.2.2.2.2.1 i dPeer).2.2.2.2.1 i [])))
def rowC (m : TMatch) (n : Nat) (i : Nat) : Bool := ieql (len (List.getD m.2.2.2.2.2.1 i [])) (n : Int) && (ieql (len (List.getD m.2.2.2.2.2.2.1 i [])) (n : Int) && (ieql (len (List.getD m.2.2.2.2.2.2.2.1 i [])) (n : Int) && (List.range n).all (cellC m i)))
def mSquare (m : TMatch) (n : Nat) : Bool := ieql (len m.2.2.2.2.2.1) (n : Int) && (ieql (len m.2.2.2.2.2.2.1) (n : Int) && (ieql (len m.2.2.2.2.2.2.2.1) (n : Int) && (List.range n).all (rowC m n)))
def mHead (m : TMatch) : Bool := mLevel m.1 && (mIn m.2.1 0 65535 && (mIn m.2.2.1 0 5 && (mIn m.2.2.2.2.2.2.2.2.1 0 1000 && (mIn m.2.2.2.2.2.2.2.2.2.2.2.2 0 1000000 && mIn (len m.2.2.2.1) 1 4))))
def mPeersC (m : TMatch) : Bool := ieql (len m.2.2.2.2.1) (len m.2.2.2.1) && (List.range m.2.2.2.2.1.length).all (peerC m)
def mWatchC (m : TMatch) : Bool := ileq (len m.2.2.2.2.2.2.2.2.2.1) 3 && (ieql (len m.2.2.2.2.2.2.2.2.2.2.1) (len m.2.2.2.2.2.2.2.2.2.1) && (List.range m.2.2.2.2.2.2.2.2.2.1.length).all (watchC m))
def mMatch (m : TMatch) : Bool := mHead m && (m.2.2.2.1.all mScript && (mPeersC m && (mSquare m m.2.2.2.1.length && mWatchC m)))
structure SmM (m : TMatch) : Prop where
  r : m.1.length <= 1048576
  sc : m.2.2.2.1.length <= 1048576
  scs : ∀ s ∈ m.2.2.2.1, s.length <= 1048576
  p : m.2.2.2.2.1.length <= 1048576
  ps : ∀ p ∈ m.2.2.2.2.1, SmP p
  ws : ∀ i j, (List.getD (List.getD m.2.2.2.2.2.1 i []) j dWire).2.2.2.2.2.2.2.1.length <= 1048576
  w : m.2.2.2.2.2.2.2.2.2.1.length <= 1048576
  wt : ∀ s ∈ m.2.2.2.2.2.2.2.2.2.1, SmW s.1
  l : ∀ i, (List.getD m.2.2.2.2.2.2.2.2.2.2.1 i dWire).2.2.2.2.2.2.2.1.length <= 1048576
theorem SmM_of {m : TMatch} (h : small 1048576 SMatch m) : SmM m := by
  obtain ⟨h1, _, _, h2, h3, h4, _, _, _, h5, h6, _⟩ := h
  have hd : dWire.2.2.2.2.2.2.2.1.length <= 1048576 := by decide
  have hw : ∀ w : TWire, small 1048576 SWire w -> w.2.2.2.2.2.2.2.1.length <= 1048576 := fun w h => h.2.2.2.2.2.2.2.1.1
  refine ⟨h1.1, h2.1, fun s hs => (h2.2 s hs).1, h3.1, fun p hp => SmP_of (h3.2 p hp), fun i j => ?_, h5.1, fun s hs => SmW_of (h5.2 s hs).1, fun i => ?_⟩
  · have hr : ∀ w ∈ List.getD m.2.2.2.2.2.1 i [], small 1048576 SWire w := by
      have := getD_P (P := fun (r : List TWire) => ∀ w ∈ r, small 1048576 SWire w) (xs := m.2.2.2.2.2.1) (d := []) (fun a ha => (h4.2 a ha).2) (fun w hw => by cases hw) i
      exact this
    exact getD_P (P := fun (w : TWire) => w.2.2.2.2.2.2.2.1.length <= 1048576) (fun a ha => hw a (hr a ha)) hd j
  · exact getD_P (P := fun (w : TWire) => w.2.2.2.2.2.2.2.1.length <= 1048576) (fun a ha => hw a (h6.2 a ha)) hd i
theorem sq_in {k : Nat} (hk : 3 <= k) (m : TMatch) (hs : SmM m) (n i : Nat) (hn4 : n <= 4) (hi : i < n) (h1 : m.2.2.2.2.2.1.length = n) (h2 : m.2.2.2.2.2.2.1.length = n) (h3 : m.2.2.2.2.2.2.2.1.length = n) (h4 : m.2.2.2.2.1.length = n) (h5 : i < (List.getD m.2.2.2.2.1 i dPeer).2.2.2.2.1.length)
    (g1 : (List.getD m.2.2.2.2.2.1 i []).length = n) (g2 : (List.getD m.2.2.2.2.2.2.1 i []).length = n) (g3 : (List.getD m.2.2.2.2.2.2.2.1 i []).length = n) (K : _ -> Option Bool) :
    loopW (spec_l08Square_l2 (C k) K) ((n : Int), (i : Int), 0, m.1, m.2.1, m.2.2.1, m.2.2.2.1, m.2.2.2.2.1, m.2.2.2.2.2.1, m.2.2.2.2.2.2.1, m.2.2.2.2.2.2.2.1, m.2.2.2.2.2.2.2.2.1, m.2.2.2.2.2.2.2.2.2.1, m.2.2.2.2.2.2.2.2.2.2.1, m.2.2.2.2.2.2.2.2.2.2.2.1, m.2.2.2.2.2.2.2.2.2.2.2.2, ()) = bif (List.range n).all (cellC m i) then K ((n : Int), (i : Int), m.1, m.2.1, m.2.2.1, m.2.2.2.1, m.2.2.2.2.1, m.2.2.2.2.2.1, m.2.2.2.2.2.2.1, m.2.2.2.2.2.2.2.1, m.2.2.2.2.2.2.2.2.1, m.2.2.2.2.2.2.2.2.2.1, m.2.2.2.2.2.2.2.2.2.2.1, m.2.2.2.2.2.2.2.2.2.2.2.1, m.2.2.2.2.2.2.2.2.2.2.2.2, ()) else some false := by
  refine loop_allN n (fun j => ((n : Int), (i : Int), (j : Int), m.1, m.2.1, m.2.2.1, m.2.2.2.1, m.2.2.2.2.1, m.2.2.2.2.2.1, m.2.2.2.2.2.2.1, m.2.2.2.2.2.2.2.1, m.2.2.2.2.2.2.2.2.1, m.2.2.2.2.2.2.2.2.2.1, m.2.2.2.2.2.2.2.2.2.2.1, m.2.2.2.2.2.2.2.2.2.2.2.1, m.2.2.2.2.2.2.2.2.2.2.2.2, ())) (cellC m i) false (K ((n : Int), (i : Int), m.1, m.2.1, m.2.2.1, m.2.2.2.1, m.2.2.2.2.1, m.2.2.2.2.2.1, m.2.2.2.2.2.2.1, m.2.2.2.2.2.2.2.1, m.2.2.2.2.2.2.2.2.1, m.2.2.2.2.2.2.2.2.2.1, m.2.2.2.2.2.2.2.2.2.2.1, m.2.2.2.2.2.2.2.2.2.2.2.1, m.2.2.2.2.2.2.2.2.2.2.2.2, ())) (fun j hj ag => ?_) (fun ag => ?_)
  · have e1 : inb (i : Int) (len m.2.2.2.2.2.1) = true := inb_nat i (by omega)
    have e2 : inb (i : Int) (len m.2.2.2.2.2.2.1) = true := inb_nat i (by omega)
    have e3 : inb (i : Int) (len m.2.2.2.2.2.2.2.1) = true := inb_nat i (by omega)
    have e4 : inb (i : Int) (len m.2.2.2.2.1) = true := inb_nat i (by omega)
    have e5 : inb (i : Int) (len (List.getD m.2.2.2.2.1 i dPeer).2.2.2.2.1) = true := inb_nat i h5
    have d1 : inb (j : Int) (len (List.getD m.2.2.2.2.2.1 i [])) = true := inb_nat j (by omega)
    have d2 : inb (j : Int) (len (List.getD m.2.2.2.2.2.2.1 i [])) = true := inb_nat j (by omega)
    have d3 : inb (j : Int) (len (List.getD m.2.2.2.2.2.2.2.1 i [])) = true := inb_nat j (by omega)
    have q : ilss (j : Int) (n : Int) = true := ilss_nat hj
    have q2 : w64 ((j : Int) + 1) = ((j + 1 : Nat) : Int) := w64_nsucc j (by omega)
    simp only [spec_l08Square_l2, Int.toNat_natCast, e1, e2, e3, e4, e5, d1, d2, d3, q, q2, cond_true, ck_true, L_spec_WireOk (k := k) (by omega) _ (hs.ws i j), L_spec_PaceOk (k := k) (by omega), L_spec_l01In (k := k) (by omega), bnd_some, some_bif, cellC]
    cases mWire (List.getD (List.getD m.2.2.2.2.2.1 i []) j dWire) <;> cases mPace (List.getD (List.getD m.2.2.2.2.2.2.1 i []) j dPace) <;> cases mIn (List.getD (List.getD m.2.2.2.2.2.2.2.1 i []) j 0) 0 (len (List.getD (List.getD m.2.2.2.2.1 i dPeer).2.2.2.2.1 i [])) <;> rfl
  · have q : ilss (n : Int) (n : Int) = false := ilss_end _
    simp only [spec_l08Square_l2, q, cond_false]
theorem L_spec_l08Square {k : Nat} (hk : 4 <= k) (m : TMatch) (hs : SmM m) (n : Nat) (hn4 : n <= 4) (h4 : m.2.2.2.2.1.length = n) (h5 : ∀ i, i < n -> i < (List.getD m.2.2.2.2.1 i dPeer).2.2.2.2.1.length) : c_spec_l08Square (C k) (m, (n : Int)) = some (mSquare m n) := by
  obtain ⟨k, rfl⟩ := pk (by omega)
  rw [u_spec_l08Square]
  simp only [spec_l08Square, ineq_not, some_bif, bnd_some, mSquare]
  cases h1 : ieql (len m.2.2.2.2.2.1) (n : Int) with
  | false => rfl
  | true =>
    cases h2 : ieql (len m.2.2.2.2.2.2.1) (n : Int) with
    | false => rfl
    | true =>
      cases h3 : ieql (len m.2.2.2.2.2.2.2.1) (n : Int) with
      | false => rfl
      | true =>
        have l1 : m.2.2.2.2.2.1.length = n := by simp only [ieql, len, beq_iff_eq] at h1; omega
        have l2 : m.2.2.2.2.2.2.1.length = n := by simp only [ieql, len, beq_iff_eq] at h2; omega
        have l3 : m.2.2.2.2.2.2.2.1.length = n := by simp only [ieql, len, beq_iff_eq] at h3; omega
        simp only [Bool.not_true, cond_false, Bool.true_and]
        refine (loop_allN n (fun i => ((n : Int), (i : Int), m.1, m.2.1, m.2.2.1, m.2.2.2.1, m.2.2.2.2.1, m.2.2.2.2.2.1, m.2.2.2.2.2.2.1, m.2.2.2.2.2.2.2.1, m.2.2.2.2.2.2.2.2.1, m.2.2.2.2.2.2.2.2.2.1, m.2.2.2.2.2.2.2.2.2.2.1, m.2.2.2.2.2.2.2.2.2.2.2.1, m.2.2.2.2.2.2.2.2.2.2.2.2, ())) (rowC m n) false (some true) (fun i hi ag => ?_) (fun ag => ?_)).trans (by rw [some_bif]; cases (List.range n).all (rowC m n) <;> rfl)
        · have e1 : inb (i : Int) (len m.2.2.2.2.2.1) = true := inb_nat i (by omega)
          have e2 : inb (i : Int) (len m.2.2.2.2.2.2.1) = true := inb_nat i (by omega)
          have e3 : inb (i : Int) (len m.2.2.2.2.2.2.2.1) = true := inb_nat i (by omega)
          have q : ilss (i : Int) (n : Int) = true := ilss_nat hi
          have q2 : w64 ((i : Int) + 1) = ((i + 1 : Nat) : Int) := w64_nsucc i (by omega)
          simp only [spec_l08Square_l0, Int.toNat_natCast, e1, e2, e3, q, cond_true, ck_true, bnd_some, some_bif, ineq_not, rowC]
          cases g1 : ieql (len (List.getD m.2.2.2.2.2.1 i [])) (n : Int) with
          | false => rfl
          | true =>
            cases g2 : ieql (len (List.getD m.2.2.2.2.2.2.1 i [])) (n : Int) with
            | false => rfl
            | true =>
              cases g3 : ieql (len (List.getD m.2.2.2.2.2.2.2.1 i [])) (n : Int) with
              | false => rfl
              | true =>
                have r1 : (List.getD m.2.2.2.2.2.1 i []).length = n := by simp only [ieql, len, beq_iff_eq] at g1; omega
                have r2 : (List.getD m.2.2.2.2.2.2.1 i []).length = n := by simp only [ieql, len, beq_iff_eq] at g2; omega
                have r3 : (List.getD m.2.2.2.2.2.2.2.1 i []).length = n := by simp only [ieql, len, beq_iff_eq] at g3; omega
                simp only [Bool.not_true, cond_false, Bool.true_and]
                refine (sq_in (k := k) (by omega) m hs n i hn4 hi l1 l2 l3 h4 (h5 i hi) r1 r2 r3 _).trans ?_
                simp only [q2]
        · have q : ilss (n : Int) (n : Int) = false := ilss_end _
          simp only [spec_l08Square_l0, q, cond_false]
theorem ln_in {k : Nat} (hk : 3 <= k) (m : TMatch) (hs : SmM m) (n i : Nat) (hn4 : n <= 4) (hi : i < n) (h1 : m.2.2.2.2.2.1.length = n) (h2 : m.2.2.2.2.2.2.1.length = n) (h3 : m.2.2.2.2.2.2.2.1.length = n) (h4 : m.2.2.2.2.1.length = n) (h5 : i < (List.getD m.2.2.2.2.1 i dPeer).2.2.2.2.1.length)
    (g1 : (List.getD m.2.2.2.2.2.1 i []).length = n) (g2 : (List.getD m.2.2.2.2.2.2.1 i []).length = n) (g3 : (List.getD m.2.2.2.2.2.2.2.1 i []).length = n) (K : _ -> Option Bool) :
    loopW (impl_linksOk_l2 (C k) K) ((n : Int), (i : Int), 0, m.1, m.2.1, m.2.2.1, m.2.2.2.1, m.2.2.2.2.1, m.2.2.2.2.2.1, m.2.2.2.2.2.2.1, m.2.2.2.2.2.2.2.1, m.2.2.2.2.2.2.2.2.1, m.2.2.2.2.2.2.2.2.2.1, m.2.2.2.2.2.2.2.2.2.2.1, m.2.2.2.2.2.2.2.2.2.2.2.1, m.2.2.2.2.2.2.2.2.2.2.2.2, ()) = bif (List.range n).all (cellC m i) then K ((n : Int), (i : Int), m.1, m.2.1, m.2.2.1, m.2.2.2.1, m.2.2.2.2.1, m.2.2.2.2.2.1, m.2.2.2.2.2.2.1, m.2.2.2.2.2.2.2.1, m.2.2.2.2.2.2.2.2.1, m.2.2.2.2.2.2.2.2.2.1, m.2.2.2.2.2.2.2.2.2.2.1, m.2.2.2.2.2.2.2.2.2.2.2.1, m.2.2.2.2.2.2.2.2.2.2.2.2, ()) else some false := by
  refine loop_allN n (fun j => ((n : Int), (i : Int), (j : Int), m.1, m.2.1, m.2.2.1, m.2.2.2.1, m.2.2.2.2.1, m.2.2.2.2.2.1, m.2.2.2.2.2.2.1, m.2.2.2.2.2.2.2.1, m.2.2.2.2.2.2.2.2.1, m.2.2.2.2.2.2.2.2.2.1, m.2.2.2.2.2.2.2.2.2.2.1, m.2.2.2.2.2.2.2.2.2.2.2.1, m.2.2.2.2.2.2.2.2.2.2.2.2, ())) (cellC m i) false (K ((n : Int), (i : Int), m.1, m.2.1, m.2.2.1, m.2.2.2.1, m.2.2.2.2.1, m.2.2.2.2.2.1, m.2.2.2.2.2.2.1, m.2.2.2.2.2.2.2.1, m.2.2.2.2.2.2.2.2.1, m.2.2.2.2.2.2.2.2.2.1, m.2.2.2.2.2.2.2.2.2.2.1, m.2.2.2.2.2.2.2.2.2.2.2.1, m.2.2.2.2.2.2.2.2.2.2.2.2, ())) (fun j hj ag => ?_) (fun ag => ?_)
  · have e1 : inb (i : Int) (len m.2.2.2.2.2.1) = true := inb_nat i (by omega)
    have e2 : inb (i : Int) (len m.2.2.2.2.2.2.1) = true := inb_nat i (by omega)
    have e3 : inb (i : Int) (len m.2.2.2.2.2.2.2.1) = true := inb_nat i (by omega)
    have e4 : inb (i : Int) (len m.2.2.2.2.1) = true := inb_nat i (by omega)
    have e5 : inb (i : Int) (len (List.getD m.2.2.2.2.1 i dPeer).2.2.2.2.1) = true := inb_nat i h5
    have d1 : inb (j : Int) (len (List.getD m.2.2.2.2.2.1 i [])) = true := inb_nat j (by omega)
    have d2 : inb (j : Int) (len (List.getD m.2.2.2.2.2.2.1 i [])) = true := inb_nat j (by omega)
    have d3 : inb (j : Int) (len (List.getD m.2.2.2.2.2.2.2.1 i [])) = true := inb_nat j (by omega)
    have q : ilss (j : Int) (n : Int) = true := ilss_nat hj
    have q2 : w64 ((j : Int) + 1) = ((j + 1 : Nat) : Int) := w64_nsucc j (by omega)
    simp only [impl_linksOk_l2, Int.toNat_natCast, e1, e2, e3, e4, e5, d1, d2, d3, q, q2, cond_true, ck_true, L_impl_WireOk (k := k) (by omega) _ (hs.ws i j), L_impl_PaceOk (k := k) (by omega), L_impl_between (k := k) (by omega), bnd_some, some_bif, cellC]
    cases mWire (List.getD (List.getD m.2.2.2.2.2.1 i []) j dWire) <;> cases mPace (List.getD (List.getD m.2.2.2.2.2.2.1 i []) j dPace) <;> cases mIn (List.getD (List.getD m.2.2.2.2.2.2.2.1 i []) j 0) 0 (len (List.getD (List.getD m.2.2.2.2.1 i dPeer).2.2.2.2.1 i [])) <;> rfl
  · have q : ilss (n : Int) (n : Int) = false := ilss_end _
    simp only [impl_linksOk_l2, q, cond_false]
theorem L_impl_linksOk {k : Nat} (hk : 4 <= k) (m : TMatch) (hs : SmM m) (n : Nat) (hn4 : n <= 4) (h4 : m.2.2.2.2.1.length = n) (h5 : ∀ i, i < n -> i < (List.getD m.2.2.2.2.1 i dPeer).2.2.2.2.1.length) : c_impl_linksOk (C k) m = some (mSquare m n) := by
  obtain ⟨k, rfl⟩ := pk (by omega)
  rw [u_impl_linksOk]
  have hN : len m.2.2.2.2.1 = (n : Int) := by simp only [len, h4]
  simp only [impl_linksOk, ineq_not, some_bif, bnd_some, mSquare, hN]
  cases h1 : ieql (len m.2.2.2.2.2.1) (n : Int) with
  | false => rfl
  | true =>
    cases h2 : ieql (len m.2.2.2.2.2.2.1) (n : Int) with
    | false => rfl
    | true =>
      cases h3 : ieql (len m.2.2.2.2.2.2.2.1) (n : Int) with
      | false => rfl
      | true =>
        have l1 : m.2.2.2.2.2.1.length = n := by simp only [ieql, len, beq_iff_eq] at h1; omega
        have l2 : m.2.2.2.2.2.2.1.length = n := by simp only [ieql, len, beq_iff_eq] at h2; omega
        have l3 : m.2.2.2.2.2.2.2.1.length = n := by simp only [ieql, len, beq_iff_eq] at h3; omega
        simp only [Bool.not_true, cond_false, Bool.true_and]
        refine (loop_allN n (fun i => ((n : Int), (i : Int), m.1, m.2.1, m.2.2.1, m.2.2.2.1, m.2.2.2.2.1, m.2.2.2.2.2.1, m.2.2.2.2.2.2.1, m.2.2.2.2.2.2.2.1, m.2.2.2.2.2.2.2.2.1, m.2.2.2.2.2.2.2.2.2.1, m.2.2.2.2.2.2.2.2.2.2.1, m.2.2.2.2.2.2.2.2.2.2.2.1, m.2.2.2.2.2.2.2.2.2.2.2.2, ())) (rowC m n) false (some true) (fun i hi ag => ?_) (fun ag => ?_)).trans (by rw [some_bif]; cases (List.range n).all (rowC m n) <;> rfl)
        · have e1 : inb (i : Int) (len m.2.2.2.2.2.1) = true := inb_nat i (by omega)
          have e2 : inb (i : Int) (len m.2.2.2.2.2.2.1) = true := inb_nat i (by omega)
          have e3 : inb (i : Int) (len m.2.2.2.2.2.2.2.1) = true := inb_nat i (by omega)
          have q : ilss (i : Int) (n : Int) = true := ilss_nat hi
          have q2 : w64 ((i : Int) + 1) = ((i + 1 : Nat) : Int) := w64_nsucc i (by omega)
          simp only [impl_linksOk_l0, Int.toNat_natCast, e1, e2, e3, q, cond_true, ck_true, bnd_some, some_bif, ineq_not, rowC]
          cases g1 : ieql (len (List.getD m.2.2.2.2.2.1 i [])) (n : Int) with
          | false => rfl
          | true =>
            cases g2 : ieql (len (List.getD m.2.2.2.2.2.2.1 i [])) (n : Int) with
            | false => rfl
            | true =>
              cases g3 : ieql (len (List.getD m.2.2.2.2.2.2.2.1 i [])) (n : Int) with
              | false => rfl
              | true =>
                have r1 : (List.getD m.2.2.2.2.2.1 i []).length = n := by simp only [ieql, len, beq_iff_eq] at g1; omega
                have r2 : (List.getD m.2.2.2.2.2.2.1 i []).length = n := by simp only [ieql, len, beq_iff_eq] at g2; omega
                have r3 : (List.getD m.2.2.2.2.2.2.2.1 i []).length = n := by simp only [ieql, len, beq_iff_eq] at g3; omega
                simp only [Bool.not_true, cond_false, Bool.true_and]
                refine (ln_in (k := k) (by omega) m hs n i hn4 hi l1 l2 l3 h4 (h5 i hi) r1 r2 r3 _).trans ?_
                simp only [q2]
        · have q : ilss (n : Int) (n : Int) = false := ilss_end _
          simp only [impl_linksOk_l0, q, cond_false]
theorem peer_at {m : TMatch} (hs : SmM m) {i : Nat} (hi : i < m.2.2.2.2.1.length) : SmP (List.getD m.2.2.2.2.1 i dPeer) := by
  rw [getD_lt hi]
  exact hs.ps _ (List.getElem_mem hi)
theorem watch_at {m : TMatch} (hs : SmM m) {i : Nat} (hi : i < m.2.2.2.2.2.2.2.2.2.1.length) : SmW (List.getD m.2.2.2.2.2.2.2.2.2.1 i dSpectator).1 := by
  rw [getD_lt hi]
  exact hs.wt _ (List.getElem_mem hi)
theorem L_impl_peersOk {k : Nat} (hk : 7 <= k) (m : TMatch) (hs : SmM m) : c_impl_peersOk (C k) m = some (mPeersC m) := by
  obtain ⟨k, rfl⟩ := pk (by omega)
  rw [u_impl_peersOk]
  simp only [impl_peersOk, ineq_not, mPeersC]
  cases h1 : ieql (len m.2.2.2.2.1) (len m.2.2.2.1) with
  | false => rfl
  | true =>
    simp only [Bool.not_true, cond_false, Bool.true_and]
    have hm : m.2.2.2.2.1.length <= maxLen := Nat.le_trans hs.p (by decide)
    refine (loop_allN m.2.2.2.2.1.length (fun i => (m.2.2.2.2.1, len m.2.2.2.2.1, (i : Int), m.1, m.2.1, m.2.2.1, m.2.2.2.1, m.2.2.2.2.1, m.2.2.2.2.2.1, m.2.2.2.2.2.2.1, m.2.2.2.2.2.2.2.1, m.2.2.2.2.2.2.2.2.1, m.2.2.2.2.2.2.2.2.2.1, m.2.2.2.2.2.2.2.2.2.2.1, m.2.2.2.2.2.2.2.2.2.2.2.1, m.2.2.2.2.2.2.2.2.2.2.2.2, ())) (peerC m) false (some true) (fun i hi ag => ?_) (fun ag => ?_)).trans (by rw [some_bif]; cases (List.range m.2.2.2.2.1.length).all (peerC m) <;> rfl)
    · have e1 : inb (i : Int) (len m.2.2.2.2.1) = true := inb_nat i hi
      have q : ilss (i : Int) (len m.2.2.2.2.1) = true := ilss_nat hi
      have q2 : w64 ((i : Int) + 1) = ((i + 1 : Nat) : Int) := w64_succ hi hm
      have hp := peer_at hs hi
      simp only [impl_peersOk_l0, Int.toNat_natCast, e1, q, q2, cond_true, ck_true, L_impl_PeerOk (k := k) (by omega) _ hp, L_impl_sameLevel (k := k) (by omega) _ _ hp.b.r, bnd_some, some_bif, ineq_not, peerC]
      cases mPeer (List.getD m.2.2.2.2.1 i dPeer) <;> cases ieql (List.getD m.2.2.2.2.1 i dPeer).1 (i : Int) <;> cases mEqL seq (List.getD m.2.2.2.2.1 i dPeer).2.2.2.2.2.1.1 m.1 <;> cases ieql (List.getD m.2.2.2.2.1 i dPeer).2.2.2.1 m.2.1 <;> cases ieql (List.getD m.2.2.2.2.1 i dPeer).2.1 m.2.2.1 <;> cases ieql (len (List.getD m.2.2.2.2.1 i dPeer).2.2.2.2.1) (len m.2.2.2.1) <;> rfl
    · have q : ilss (m.2.2.2.2.1.length : Int) (len m.2.2.2.2.1) = false := ilss_end _
      simp only [impl_peersOk_l0, q, cond_false]
theorem L_impl_watchersOk {k : Nat} (hk : 6 <= k) (m : TMatch) (hs : SmM m) : c_impl_watchersOk (C k) m = some (mWatchC m) := by
  obtain ⟨k, rfl⟩ := pk (by omega)
  rw [u_impl_watchersOk]
  simp only [impl_watchersOk, ineq_not, igtr_not, some_bif, bnd_some, mWatchC]
  cases h1 : ileq (len m.2.2.2.2.2.2.2.2.2.1) 3 with
  | false => rfl
  | true =>
    cases h2 : ieql (len m.2.2.2.2.2.2.2.2.2.2.1) (len m.2.2.2.2.2.2.2.2.2.1) with
    | false => rfl
    | true =>
      have hl : m.2.2.2.2.2.2.2.2.2.2.1.length = m.2.2.2.2.2.2.2.2.2.1.length := by simp only [ieql, len, beq_iff_eq] at h2; omega
      simp only [Bool.not_true, cond_false, Bool.true_and]
      have hm : m.2.2.2.2.2.2.2.2.2.1.length <= maxLen := Nat.le_trans hs.w (by decide)
      refine (loop_allN m.2.2.2.2.2.2.2.2.2.1.length (fun i => (m.2.2.2.2.2.2.2.2.2.1, len m.2.2.2.2.2.2.2.2.2.1, (i : Int), m.1, m.2.1, m.2.2.1, m.2.2.2.1, m.2.2.2.2.1, m.2.2.2.2.2.1, m.2.2.2.2.2.2.1, m.2.2.2.2.2.2.2.1, m.2.2.2.2.2.2.2.2.1, m.2.2.2.2.2.2.2.2.2.1, m.2.2.2.2.2.2.2.2.2.2.1, m.2.2.2.2.2.2.2.2.2.2.2.1, m.2.2.2.2.2.2.2.2.2.2.2.2, ())) (watchC m) false (some true) (fun i hi ag => ?_) (fun ag => ?_)).trans (by rw [some_bif]; cases (List.range m.2.2.2.2.2.2.2.2.2.1.length).all (watchC m) <;> rfl)
      · have e1 : inb (i : Int) (len m.2.2.2.2.2.2.2.2.2.1) = true := inb_nat i hi
        have e2 : inb (i : Int) (len m.2.2.2.2.2.2.2.2.2.2.1) = true := inb_nat i (by omega)
        have q : ilss (i : Int) (len m.2.2.2.2.2.2.2.2.2.1) = true := ilss_nat hi
        have q2 : w64 ((i : Int) + 1) = ((i + 1 : Nat) : Int) := w64_succ hi hm
        have hp := watch_at hs hi
        have hw : c_impl_WireOk (C k) ((List.getD m.2.2.2.2.2.2.2.2.2.2.1 i dWire).1, (List.getD m.2.2.2.2.2.2.2.2.2.2.1 i dWire).2.1, (List.getD m.2.2.2.2.2.2.2.2.2.2.1 i dWire).2.2.1, (List.getD m.2.2.2.2.2.2.2.2.2.2.1 i dWire).2.2.2.1, (List.getD m.2.2.2.2.2.2.2.2.2.2.1 i dWire).2.2.2.2.1, (List.getD m.2.2.2.2.2.2.2.2.2.2.1 i dWire).2.2.2.2.2.1, (List.getD m.2.2.2.2.2.2.2.2.2.2.1 i dWire).2.2.2.2.2.2.1, (List.getD m.2.2.2.2.2.2.2.2.2.2.1 i dWire).2.2.2.2.2.2.2.1, (List.getD m.2.2.2.2.2.2.2.2.2.2.1 i dWire).2.2.2.2.2.2.2.2.1, (List.getD m.2.2.2.2.2.2.2.2.2.2.1 i dWire).2.2.2.2.2.2.2.2.2) = some (mWire (List.getD m.2.2.2.2.2.2.2.2.2.2.1 i dWire)) := L_impl_WireOk (k := k) (by omega) (List.getD m.2.2.2.2.2.2.2.2.2.2.1 i dWire) (hs.l i)
        simp only [impl_watchersOk_l0, Int.toNat_natCast, e1, e2, q, q2, cond_true, ck_true, hw, L_impl_WorldOk (k := k) (by omega), L_impl_sameLevel (k := k) (by omega) _ _ hp.r, bnd_some, some_bif, ineq_not, watchC]
        cases mWire (List.getD m.2.2.2.2.2.2.2.2.2.2.1 i dWire) <;> cases mWorld (List.getD m.2.2.2.2.2.2.2.2.2.1 i dSpectator).1 <;> cases mEqL seq (List.getD m.2.2.2.2.2.2.2.2.2.1 i dSpectator).1.1 m.1 <;> cases ieql (len (List.getD m.2.2.2.2.2.2.2.2.2.1 i dSpectator).1.2.2.2.1) (len m.2.2.2.1) <;> rfl
      · have q : ilss (m.2.2.2.2.2.2.2.2.2.1.length : Int) (len m.2.2.2.2.2.2.2.2.2.1) = false := ilss_end _
        simp only [impl_watchersOk_l0, q, cond_false]
theorem peers_len {m : TMatch} (h : mPeersC m = true) : m.2.2.2.2.1.length = m.2.2.2.1.length /\ ∀ i, i < m.2.2.2.1.length -> peerC m i = true /\ (List.getD m.2.2.2.2.1 i dPeer).2.2.2.2.1.length = m.2.2.2.1.length := by
  unfold mPeersC at h
  rw [Bool.and_eq_true, List.all_eq_true] at h
  obtain ⟨h1, h2⟩ := h
  have l1 : m.2.2.2.2.1.length = m.2.2.2.1.length := by simp only [ieql, len, beq_iff_eq] at h1; omega
  refine ⟨l1, fun i hi => ?_⟩
  have := h2 i (by rw [List.mem_range]; omega)
  refine ⟨this, ?_⟩
  unfold peerC at this
  simp only [Bool.and_eq_true, ieql, len, beq_iff_eq] at this
  omega
theorem L_impl_MatchOk {k : Nat} (hk : 8 <= k) (m : TMatch) (hs : SmM m) : c_impl_MatchOk (C k) m = some (mMatch m) := by
  obtain ⟨k, rfl⟩ := pk (by omega)
  rw [u_impl_MatchOk]
  simp only [impl_MatchOk, L_impl_LevelOk (k := k) (by omega), L_impl_between (k := k) (by omega), some_bif, bnd_some, out_in, mMatch, mHead]
  cases a1 : mLevel m.1 with
  | false => rfl
  | true =>
    cases a2 : mIn m.2.1 0 65535 with
    | false => rfl
    | true =>
      cases a3 : mIn m.2.2.1 0 5 with
      | false => rfl
      | true =>
        cases a4 : mIn m.2.2.2.2.2.2.2.2.1 0 1000 with
        | false => rfl
        | true =>
          cases a5 : mIn m.2.2.2.2.2.2.2.2.2.2.2.2 0 1000000 with
          | false => rfl
          | true =>
            cases a6 : mIn (len m.2.2.2.1) 1 4 with
            | false => rfl
            | true =>
              have hm : m.2.2.2.1.length <= maxLen := Nat.le_trans hs.sc (by decide)
              simp only [Bool.not_true, cond_false, Bool.true_and]
              refine (loop_all0 m.2.2.2.1 (fun i => (m.2.2.2.1, len m.2.2.2.1, (i : Int), m.1, m.2.1, m.2.2.1, m.2.2.2.1, m.2.2.2.2.1, m.2.2.2.2.2.1, m.2.2.2.2.2.2.1, m.2.2.2.2.2.2.2.1, m.2.2.2.2.2.2.2.2.1, m.2.2.2.2.2.2.2.2.2.1, m.2.2.2.2.2.2.2.2.2.2.1, m.2.2.2.2.2.2.2.2.2.2.2.1, m.2.2.2.2.2.2.2.2.2.2.2.2, ())) mScript false ?K (fun i hi ag => ?h) (fun ag => ?e)).trans ?r
              case e =>
                have q : ilss (m.2.2.2.1.length : Int) (len m.2.2.2.1) = false := ilss_end _
                simp only [impl_MatchOk_l0, q, cond_false]
                rfl
              case h =>
                have e1 : inb (i : Int) (len m.2.2.2.1) = true := inb_nat i hi
                have q : ilss (i : Int) (len m.2.2.2.1) = true := ilss_nat hi
                have q2 : w64 ((i : Int) + 1) = ((i + 1 : Nat) : Int) := w64_succ hi hm
                simp only [impl_MatchOk_l0, Int.toNat_natCast, e1, q, q2, cond_true, ck_true, getD_lt hi, L_impl_scriptOk (k := k) (by omega) _ (hs.scs _ (List.getElem_mem hi)), bnd_some]
                cases mScript m.2.2.2.1[i] <;> rfl
              case r =>
                cases h1 : m.2.2.2.1.all mScript with
                | false => rfl
                | true =>
                  rw [cond_true]
                  have hp : c_impl_peersOk (C k) (m.1, m.2.1, m.2.2.1, m.2.2.2.1, m.2.2.2.2.1, m.2.2.2.2.2.1, m.2.2.2.2.2.2.1, m.2.2.2.2.2.2.2.1, m.2.2.2.2.2.2.2.2.1, m.2.2.2.2.2.2.2.2.2.1, m.2.2.2.2.2.2.2.2.2.2.1, m.2.2.2.2.2.2.2.2.2.2.2.1, m.2.2.2.2.2.2.2.2.2.2.2.2) = some (mPeersC m) := L_impl_peersOk (k := k) (by omega) m hs
                  have hw : c_impl_watchersOk (C k) (m.1, m.2.1, m.2.2.1, m.2.2.2.1, m.2.2.2.2.1, m.2.2.2.2.2.1, m.2.2.2.2.2.2.1, m.2.2.2.2.2.2.2.1, m.2.2.2.2.2.2.2.2.1, m.2.2.2.2.2.2.2.2.2.1, m.2.2.2.2.2.2.2.2.2.2.1, m.2.2.2.2.2.2.2.2.2.2.2.1, m.2.2.2.2.2.2.2.2.2.2.2.2) = some (mWatchC m) := L_impl_watchersOk (k := k) (by omega) m hs
                  simp only [hp, hw, bnd_some]
                  cases h2 : mPeersC m with
                  | false => rfl
                  | true =>
                    obtain ⟨l1, l2⟩ := peers_len h2
                    have hl : c_impl_linksOk (C k) (m.1, m.2.1, m.2.2.1, m.2.2.2.1, m.2.2.2.2.1, m.2.2.2.2.2.1, m.2.2.2.2.2.2.1, m.2.2.2.2.2.2.2.1, m.2.2.2.2.2.2.2.2.1, m.2.2.2.2.2.2.2.2.2.1, m.2.2.2.2.2.2.2.2.2.2.1, m.2.2.2.2.2.2.2.2.2.2.2.1, m.2.2.2.2.2.2.2.2.2.2.2.2) = some (mSquare m m.2.2.2.1.length) := L_impl_linksOk (k := k) (by omega) m hs m.2.2.2.1.length (by rw [mIn_iff] at a6; simp only [len] at a6; omega) l1 (fun i hi => by have := (l2 i hi).2; omega)
                    simp only [hl, cond_true, bnd_some, Bool.true_and]
                    cases mSquare m m.2.2.2.1.length <;> cases mWatchC m <;> rfl
theorem script_zero {xs : List Int} : ilss (mScriptIn xs 0 0) 0 = !mScript xs := by
  cases h : mScript xs with
  | true =>
    have := mIn_iff.1 (script_in h (d := 0) (t := 0) (by decide) (by decide) (by decide))
    exact ilss_pos (by omega)
  | false =>
    unfold mScriptIn
    rw [h]
    rfl
theorem L_spec_MatchOk {k : Nat} (hk : 7 <= k) (m : TMatch) (hs : SmM m) : c_spec_MatchOk (C k) m = some (mMatch m) := by
  obtain ⟨k, rfl⟩ := pk (by omega)
  rw [u_spec_MatchOk]
  simp only [spec_MatchOk, L_spec_LevelOk (k := k) (by omega), L_spec_l01In (k := k) (by omega), some_bif, bnd_some, mMatch, mHead, ineq_not, igtr_not]
  cases a1 : mLevel m.1 with
  | false => rfl
  | true =>
    cases a2 : mIn m.2.1 0 65535 with
    | false => rfl
    | true =>
      cases a3 : mIn m.2.2.1 0 5 with
      | false => rfl
      | true =>
        cases a4 : mIn m.2.2.2.2.2.2.2.2.1 0 1000 with
        | false => rfl
        | true =>
          cases a5 : mIn m.2.2.2.2.2.2.2.2.2.2.2.2 0 1000000 with
          | false => rfl
          | true =>
            cases a6 : mIn (len m.2.2.2.1) 1 4 with
            | false => rfl
            | true =>
              rw [mIn_iff] at a6
              simp only [len] at a6
              unfold mPeersC mWatchC
              cases a7 : ieql (len m.2.2.2.2.1) (len m.2.2.2.1) with
              | false => simp
              | true =>
                cases a8 : ileq (len m.2.2.2.2.2.2.2.2.2.1) 3 with
                | false => simp
                | true =>
                  cases a9 : ieql (len m.2.2.2.2.2.2.2.2.2.2.1) (len m.2.2.2.2.2.2.2.2.2.1) with
                  | false => simp
                  | true =>
                    have l1 : m.2.2.2.2.1.length = m.2.2.2.1.length := by simp only [ieql, len, beq_iff_eq] at a7; omega
                    have l2 : m.2.2.2.2.2.2.2.2.2.2.1.length = m.2.2.2.2.2.2.2.2.2.1.length := by simp only [ieql, len, beq_iff_eq] at a9; omega
                    have w3 : m.2.2.2.2.2.2.2.2.2.1.length <= 3 := by simp only [ileq, len, decide_eq_true_eq] at a8; omega
                    simp only [Bool.not_true, cond_false, Bool.true_and]
                    refine (loop_allN m.2.2.2.1.length (fun i => (len m.2.2.2.1, (i : Int), m.1, m.2.1, m.2.2.1, m.2.2.2.1, m.2.2.2.2.1, m.2.2.2.2.2.1, m.2.2.2.2.2.2.1, m.2.2.2.2.2.2.2.1, m.2.2.2.2.2.2.2.2.1, m.2.2.2.2.2.2.2.2.2.1, m.2.2.2.2.2.2.2.2.2.2.1, m.2.2.2.2.2.2.2.2.2.2.2.1, m.2.2.2.2.2.2.2.2.2.2.2.2, ())) (fun i => mScript (List.getD m.2.2.2.1 i []) && peerC m i) false ?K (fun i hi ag => ?h) (fun ag => ?e)).trans ?r
                    case e =>
                      have q : ilss (m.2.2.2.1.length : Int) (len m.2.2.2.1) = false := ilss_end _
                      simp only [spec_MatchOk_l0, q, cond_false]
                      rfl
                    case h =>
                      have e1 : inb (i : Int) (len m.2.2.2.1) = true := inb_nat i hi
                      have e2 : inb (i : Int) (len m.2.2.2.2.1) = true := inb_nat i (by omega)
                      have q : ilss (i : Int) (len m.2.2.2.1) = true := ilss_nat hi
                      have q2 : w64 ((i : Int) + 1) = ((i + 1 : Nat) : Int) := w64_nsucc i (by omega)
                      have hp := peer_at hs (i := i) (by omega)
                      have hsc : (List.getD m.2.2.2.1 i []).length <= 1048576 := by rw [getD_lt hi]; exact hs.scs _ (List.getElem_mem hi)
                      have hpo : ∀ p, p = List.getD m.2.2.2.2.1 i dPeer -> c_spec_PeerOk (C k) p = some (mPeer (List.getD m.2.2.2.2.1 i dPeer)) := fun p e => by rw [e]; exact L_spec_PeerOk (k := k) (by omega) _ hp
                      simp only [spec_MatchOk_l0, Int.toNat_natCast, e1, e2, q, q2, cond_true, ck_true, hpo _ rfl, L_spec_ScriptInput (k := k) (by omega) _ 0 0 hsc (by omega), L_spec_l02SameLevel (k := k) (by omega) _ _ hp.b.r, bnd_some, some_bif, ineq_not, peerC, script_zero]
                      cases mScript (List.getD m.2.2.2.1 i []) <;> cases mPeer (List.getD m.2.2.2.2.1 i dPeer) <;> cases ieql (List.getD m.2.2.2.2.1 i dPeer).1 (i : Int) <;> cases mEqL seq (List.getD m.2.2.2.2.1 i dPeer).2.2.2.2.2.1.1 m.1 <;> cases ieql (List.getD m.2.2.2.2.1 i dPeer).2.2.2.1 m.2.1 <;> cases ieql (List.getD m.2.2.2.2.1 i dPeer).2.1 m.2.2.1 <;> cases ieql (len (List.getD m.2.2.2.2.1 i dPeer).2.2.2.2.1) (len m.2.2.2.1) <;> rfl
                    case r =>
                      rw [all_split m.2.2.2.1 [] mScript (peerC m), l1]
                      cases h1 : m.2.2.2.1.all mScript with
                      | false => rfl
                      | true =>
                        cases h2 : (List.range m.2.2.2.1.length).all (peerC m) with
                        | false => rfl
                        | true =>
                          have h2' : mPeersC m = true := by unfold mPeersC; rw [a7, l1, h2]; rfl
                          obtain ⟨_, l3⟩ := peers_len h2'
                          rw [Bool.and_self, cond_true]
                          refine (loop_allN m.2.2.2.2.2.2.2.2.2.1.length (fun i => (len m.2.2.2.1, (i : Int), m.1, m.2.1, m.2.2.1, m.2.2.2.1, m.2.2.2.2.1, m.2.2.2.2.2.1, m.2.2.2.2.2.2.1, m.2.2.2.2.2.2.2.1, m.2.2.2.2.2.2.2.2.1, m.2.2.2.2.2.2.2.2.2.1, m.2.2.2.2.2.2.2.2.2.2.1, m.2.2.2.2.2.2.2.2.2.2.2.1, m.2.2.2.2.2.2.2.2.2.2.2.2, ())) (watchC m) false ?K2 (fun i hi ag => ?h2) (fun ag => ?e2)).trans ?r2
                          case e2 =>
                            have q : ilss (m.2.2.2.2.2.2.2.2.2.1.length : Int) (len m.2.2.2.2.2.2.2.2.2.1) = false := ilss_end _
                            simp only [spec_MatchOk_l2, q, cond_false]
                            rfl
                          case h2 =>
                            have e1 : inb (i : Int) (len m.2.2.2.2.2.2.2.2.2.1) = true := inb_nat i hi
                            have e2 : inb (i : Int) (len m.2.2.2.2.2.2.2.2.2.2.1) = true := inb_nat i (by omega)
                            have q : ilss (i : Int) (len m.2.2.2.2.2.2.2.2.2.1) = true := ilss_nat hi
                            have q2 : w64 ((i : Int) + 1) = ((i + 1 : Nat) : Int) := w64_nsucc i (by omega)
                            have hp := watch_at hs hi
                            have hw : c_spec_WireOk (C k) ((List.getD m.2.2.2.2.2.2.2.2.2.2.1 i dWire).1, (List.getD m.2.2.2.2.2.2.2.2.2.2.1 i dWire).2.1, (List.getD m.2.2.2.2.2.2.2.2.2.2.1 i dWire).2.2.1, (List.getD m.2.2.2.2.2.2.2.2.2.2.1 i dWire).2.2.2.1, (List.getD m.2.2.2.2.2.2.2.2.2.2.1 i dWire).2.2.2.2.1, (List.getD m.2.2.2.2.2.2.2.2.2.2.1 i dWire).2.2.2.2.2.1, (List.getD m.2.2.2.2.2.2.2.2.2.2.1 i dWire).2.2.2.2.2.2.1, (List.getD m.2.2.2.2.2.2.2.2.2.2.1 i dWire).2.2.2.2.2.2.2.1, (List.getD m.2.2.2.2.2.2.2.2.2.2.1 i dWire).2.2.2.2.2.2.2.2.1, (List.getD m.2.2.2.2.2.2.2.2.2.2.1 i dWire).2.2.2.2.2.2.2.2.2) = some (mWire (List.getD m.2.2.2.2.2.2.2.2.2.2.1 i dWire)) := L_spec_WireOk (k := k) (by omega) (List.getD m.2.2.2.2.2.2.2.2.2.2.1 i dWire) (hs.l i)
                            have hww : c_spec_WorldOk (C k) ((List.getD m.2.2.2.2.2.2.2.2.2.1 i dSpectator).1.1, (List.getD m.2.2.2.2.2.2.2.2.2.1 i dSpectator).1.2.1, (List.getD m.2.2.2.2.2.2.2.2.2.1 i dSpectator).1.2.2.1, (List.getD m.2.2.2.2.2.2.2.2.2.1 i dSpectator).1.2.2.2.1, (List.getD m.2.2.2.2.2.2.2.2.2.1 i dSpectator).1.2.2.2.2) = some (mWorld (List.getD m.2.2.2.2.2.2.2.2.2.1 i dSpectator).1) := L_spec_WorldOk (k := k) (by omega) _
                            simp only [spec_MatchOk_l2, Int.toNat_natCast, e1, e2, q, q2, cond_true, ck_true, hw, hww, L_spec_l02SameLevel (k := k) (by omega) _ _ hp.r, bnd_some, some_bif, ineq_not, watchC]
                            cases mWire (List.getD m.2.2.2.2.2.2.2.2.2.2.1 i dWire) <;> cases mWorld (List.getD m.2.2.2.2.2.2.2.2.2.1 i dSpectator).1 <;> cases mEqL seq (List.getD m.2.2.2.2.2.2.2.2.2.1 i dSpectator).1.1 m.1 <;> cases ieql (len (List.getD m.2.2.2.2.2.2.2.2.2.1 i dSpectator).1.2.2.2.1) (len m.2.2.2.1) <;> rfl
                          case r2 =>
                            have hl : c_spec_l08Square (C k) ((m.1, m.2.1, m.2.2.1, m.2.2.2.1, m.2.2.2.2.1, m.2.2.2.2.2.1, m.2.2.2.2.2.2.1, m.2.2.2.2.2.2.2.1, m.2.2.2.2.2.2.2.2.1, m.2.2.2.2.2.2.2.2.2.1, m.2.2.2.2.2.2.2.2.2.2.1, m.2.2.2.2.2.2.2.2.2.2.2.1, m.2.2.2.2.2.2.2.2.2.2.2.2), (m.2.2.2.1.length : Int)) = some (mSquare m m.2.2.2.1.length) := L_spec_l08Square (k := k) (by omega) m hs m.2.2.2.1.length (by omega) l1 (fun i hi => by have := (l3 i hi).2; omega)
                            simp only [hl, bnd_some]
                            cases (List.range m.2.2.2.2.2.2.2.2.2.1.length).all (watchC m) <;> cases mSquare m m.2.2.2.1.length <;> rfl
end Go.Proofs.YtaflceohlijekaaGreat.Ev
namespace Go.Proofs.YtaflceohlijekaaGreat.Ev
def mLockF (m : TMatch) (t : Nat) (f : TFault) (i : Nat) (w : TWorld) : TWorld := mFStep w (List.getD (mRows2 m.2.2.2.1 m.2.2.1 t) i []) f
def mLockN (m : TMatch) (t : Nat) (f : TFault) : TWorld := nFold (mLockF m t f) t 0 (mNewW m.1 m.2.2.2.1.length m.2.1)
def mLock (m : TMatch) (t : Int) (f : TFault) : TWorld × Bool := bif mMatch m && mIn t 0 400 then (mLockN m t.toNat f, true) else (([], 0, 0, [], []), false)
theorem match_sc {m : TMatch} (hs : SmM m) (h : mMatch m = true) : ScI m.2.2.2.1 m.2.2.1 /\ mLevel m.1 = true /\ mIn m.2.1 0 65535 = true := by
  unfold mMatch mHead at h
  simp only [Bool.and_eq_true] at h
  obtain ⟨⟨h1, h2, h3, h4, h5, h6⟩, h7, _⟩ := h
  rw [mIn_iff] at h6
  simp only [len] at h6
  rw [List.all_eq_true] at h7
  exact ⟨⟨by omega, by omega, hs.scs, h7, h3⟩, h1, h2⟩
theorem new_sm {x : List ByteArray} (hx : x.length <= 1048576) {n : Nat} (hn : n <= 4) (sd : Int) : SmW (mNewW x n sd) :=
  ⟨hx, by show (List.replicate n (0 : Int)).length <= _; rw [List.length_replicate]; omega, by show (mNewBodies x n).length <= _; rw [mNewBodies_len]; omega⟩
theorem rows_len (ss : List (List Int)) (d : Int) (t i : Nat) (h : ss.length <= 4) : (List.getD (mRows2 ss d t) i []).length <= 1048576 := by
  refine getD_P (P := fun (r : List Int) => r.length <= 1048576) (fun r hr => ?_) (by simp) i
  unfold mRows2 at hr
  rw [List.mem_map] at hr
  obtain ⟨j, _, rfl⟩ := hr
  unfold mRowAt2
  rw [List.length_map]
  omega
theorem lock_sm {m : TMatch} (hs : SmM m) (h : mMatch m = true) (t : Nat) (f : TFault) : SmW (mLockN m t f) := by
  obtain ⟨hsc, _, _⟩ := match_sc hs h
  exact nFold_I (fun _ w => SmW w) (mLockF m t f) t (fun i w _ hw => (mFStep_sm hw _ f).1) t 0 _ (by omega) (new_sm hs.r hsc.n4 _)
theorem new_eq {m : TMatch} (hs : SmM m) (h : mMatch m = true) : mNew m.1 (len m.2.2.2.1) m.2.1 = (mNewW m.1 m.2.2.2.1.length m.2.1, true) := by
  obtain ⟨hsc, hl, hsd⟩ := match_sc hs h
  have := hsc.n1
  have := hsc.n4
  unfold mNew
  rw [show (len m.2.2.2.1).toNat = m.2.2.2.1.length from Int.toNat_natCast _, new_ok hl (by omega) (by omega) hsd, mIn_iff.2 (⟨by simp only [len]; omega, by simp only [len]; omega⟩ : 1 <= len m.2.2.2.1 /\ len m.2.2.2.1 <= 4)]
  rfl
theorem lock_spec {k : Nat} (hk : 8 <= k) (m : TMatch) (hs : SmM m) (h : mMatch m = true) (t : Nat) (ht : t <= 400) (f : TFault) (K : _ -> Option (TWorld × Bool)) :
    loopW (spec_LockstepAt_l0 (C k) K) ((t : Int), 0, f.1, f.2.1, f.2.2, 0, 0, (mNewW m.1 m.2.2.2.1.length m.2.1).2.1, (mNewW m.1 m.2.2.2.1.length m.2.1).2.2.1, mRows2 m.2.2.2.1 m.2.2.1 t, (mNewW m.1 m.2.2.2.1.length m.2.1).2.2.2.2, (mNewW m.1 m.2.2.2.1.length m.2.1).2.2.2.1, (mNewW m.1 m.2.2.2.1.length m.2.1).1, [], [], [], ()) =
      K (0, 0, (mLockN m t f).2.1, (mLockN m t f).2.2.1, (mLockN m t f).2.2.2.2, (mLockN m t f).2.2.2.1, (mLockN m t f).1, [], [], [], ()) := by
  obtain ⟨hsc, hl, hsd⟩ := match_sc hs h
  unfold mLockN
  refine (loop_nI (body := spec_LockstepAt_l0 (C k) K) t (fun i w => ((t : Int), (i : Int), f.1, f.2.1, f.2.2, 0, 0, w.2.1, w.2.2.1, mRows2 m.2.2.2.1 m.2.2.1 t, w.2.2.2.2, w.2.2.2.1, w.1, [], [], [], ())) (fun _ w => SmW w) (mLockF m t f) (fun w => K (0, 0, w.2.1, w.2.2.1, w.2.2.2.2, w.2.2.2.1, w.1, [], [], [], ())) (mNewW m.1 m.2.2.2.1.length m.2.1) (new_sm hs.r hsc.n4 _) _ rfl (fun i w hi hw => ⟨fun ag => ?_, (mFStep_sm hw _ f).1⟩) (fun w hw ag => ?_)).1
  · have e1 : inb (i : Int) (len (mRows2 m.2.2.2.1 m.2.2.1 t)) = true := inb_nat i (by rw [mRows2_len]; exact hi)
    have q : ilss (i : Int) (t : Int) = true := ilss_nat hi
    have q2 : w64 ((i : Int) + 1) = ((i + 1 : Nat) : Int) := w64_nsucc i (by omega)
    have hf : c_spec_FaultyStep (C k) ((w.1, w.2.1, w.2.2.1, w.2.2.2.1, w.2.2.2.2), List.getD (mRows2 m.2.2.2.1 m.2.2.1 t) i [], f.1, f.2.1, f.2.2) = some (mLockF m t f i w) := L_spec_FaultyStep (k := k) (by omega) w hw _ (rows_len _ _ _ _ hsc.n4) f
    simp only [spec_LockstepAt_l0, Int.toNat_natCast, e1, q, q2, cond_true, ck_true, hf, bnd_some]
  · have q : ilss (t : Int) (t : Int) = false := ilss_end _
    simp only [spec_LockstepAt_l0, q, cond_false]
theorem lock_impl {k : Nat} (hk : 9 <= k) (m : TMatch) (hs : SmM m) (h : mMatch m = true) (t : Nat) (ht : t <= 400) (f : TFault) (K : _ -> Option (TWorld × Bool)) :
    loopW (impl_LockstepAt_l0 (C k) K) ((t : Int), 0, f.1, f.2.1, f.2.2, 0, 0, (mNewW m.1 m.2.2.2.1.length m.2.1).2.1, (mNewW m.1 m.2.2.2.1.length m.2.1).2.2.1, mRows2 m.2.2.2.1 m.2.2.1 t, (mNewW m.1 m.2.2.2.1.length m.2.1).2.2.2.2, (mNewW m.1 m.2.2.2.1.length m.2.1).2.2.2.1, (mNewW m.1 m.2.2.2.1.length m.2.1).1, [], [], [], ()) =
      K (0, 0, (mLockN m t f).2.1, (mLockN m t f).2.2.1, (mLockN m t f).2.2.2.2, (mLockN m t f).2.2.2.1, (mLockN m t f).1, [], [], [], ()) := by
  obtain ⟨hsc, hl, hsd⟩ := match_sc hs h
  unfold mLockN
  refine (loop_nI (body := impl_LockstepAt_l0 (C k) K) t (fun i w => ((t : Int), (i : Int), f.1, f.2.1, f.2.2, 0, 0, w.2.1, w.2.2.1, mRows2 m.2.2.2.1 m.2.2.1 t, w.2.2.2.2, w.2.2.2.1, w.1, [], [], [], ())) (fun _ w => SmW w) (mLockF m t f) (fun w => K (0, 0, w.2.1, w.2.2.1, w.2.2.2.2, w.2.2.2.1, w.1, [], [], [], ())) (mNewW m.1 m.2.2.2.1.length m.2.1) (new_sm hs.r hsc.n4 _) _ rfl (fun i w hi hw => ⟨fun ag => ?_, (mFStep_sm hw _ f).1⟩) (fun w hw ag => ?_)).1
  · have e1 : inb (i : Int) (len (mRows2 m.2.2.2.1 m.2.2.1 t)) = true := inb_nat i (by rw [mRows2_len]; exact hi)
    have q : ilss (i : Int) (t : Int) = true := ilss_nat hi
    have q2 : w64 ((i : Int) + 1) = ((i + 1 : Nat) : Int) := w64_nsucc i (by omega)
    have hf : c_impl_FaultyStep (C k) ((w.1, w.2.1, w.2.2.1, w.2.2.2.1, w.2.2.2.2), List.getD (mRows2 m.2.2.2.1 m.2.2.1 t) i [], f.1, f.2.1, f.2.2) = some (mLockF m t f i w) := L_impl_FaultyStep (k := k) (by omega) w hw _ (rows_len _ _ _ _ hsc.n4) f
    simp only [impl_LockstepAt_l0, Int.toNat_natCast, e1, q, q2, cond_true, ck_true, hf, bnd_some]
  · have q : ilss (t : Int) (t : Int) = false := ilss_end _
    simp only [impl_LockstepAt_l0, q, cond_false]
theorem L_spec_LockstepAt {k : Nat} (hk : 9 <= k) (m : TMatch) (hs : SmM m) (t : Int) (f : TFault) : c_spec_LockstepAt (C k) (m, t, f) = some (mLock m t f) := by
  obtain ⟨k, rfl⟩ := pk (by omega)
  rw [u_spec_LockstepAt]
  simp only [spec_LockstepAt, L_spec_MatchOk (k := k) (by omega) m hs, L_spec_l01In (k := k) (by omega), some_bif, bnd_some, mLock]
  cases h : mMatch m with
  | false => rfl
  | true =>
    cases ht : mIn t 0 400 with
    | false => rfl
    | true =>
      rw [mIn_iff] at ht
      obtain ⟨n, rfl⟩ := Int.eq_ofNat_of_zero_le ht.1
      obtain ⟨hsc, hl, hsd⟩ := match_sc hs h
      simp only [Bool.not_true, cond_false, Bool.and_self, cond_true, Int.toNat_natCast, L_spec_NewWorld (k := k) (by omega) m.1 (len m.2.2.2.1) m.2.1 hs.r, new_eq hs h, bnd_some, L_spec_ScriptRows (k := k) (by omega) m.2.2.2.1 m.2.2.1 n hsc (by omega)]
      exact lock_spec (k := k) (by omega) m hs h n (by omega) f _
theorem L_impl_LockstepAt {k : Nat} (hk : 10 <= k) (m : TMatch) (hs : SmM m) (t : Int) (f : TFault) : c_impl_LockstepAt (C k) (m, t, f) = some (mLock m t f) := by
  obtain ⟨k, rfl⟩ := pk (by omega)
  rw [u_impl_LockstepAt]
  simp only [impl_LockstepAt, L_impl_MatchOk (k := k) (by omega) m hs, L_impl_between (k := k) (by omega), some_bif, bnd_some, mLock]
  cases ht : mIn t 0 400 with
  | false => rw [Bool.and_false]; rfl
  | true =>
    cases h : mMatch m with
    | false => rfl
    | true =>
      rw [mIn_iff] at ht
      obtain ⟨n, rfl⟩ := Int.eq_ofNat_of_zero_le ht.1
      obtain ⟨hsc, hl, hsd⟩ := match_sc hs h
      simp only [Bool.not_true, cond_false, Bool.and_self, cond_true, Int.toNat_natCast, L_impl_NewWorld (k := k) (by omega) m.1 (len m.2.2.2.1) m.2.1 hs.r, new_eq hs h, bnd_some, L_impl_ScriptRows (k := k) (by omega) m.2.2.2.1 m.2.2.1 n hsc (by omega)]
      rw [show len (mRows2 m.2.2.2.1 m.2.2.1 n) = (n : Int) by simp only [len, mRows2_len]]
      exact lock_impl (k := k) (by omega) m hs h n (by omega) f _
theorem in_inb {i : Int} {n : Nat} (h : mIn i 0 ((n : Int) - 1) = true) : inb i (n : Int) = true /\ i.toNat < n := by
  rw [mIn_iff] at h
  simp only [inb, Bool.and_eq_true, decide_eq_true_eq]
  omega
end Go.Proofs.YtaflceohlijekaaGreat.Ev
namespace Go.Proofs.YtaflceohlijekaaGreat.Ev
def mJudgeW (m : TMatch) (i : Int) : Bool := mMatch m && (mIn i 0 (len m.2.2.2.2.2.2.2.2.2.1 - 1) && (mIn (List.getD m.2.2.2.2.2.2.2.2.2.1 i.toNat dSpectator).1.2.1 0 400 && mSame (mLockN m (List.getD m.2.2.2.2.2.2.2.2.2.1 i.toNat dSpectator).1.2.1.toNat (0, 0, 0)) (List.getD m.2.2.2.2.2.2.2.2.2.1 i.toNat dSpectator).1))
theorem L_spec_JudgeWatcher {k : Nat} (hk : 10 <= k) (m : TMatch) (hs : SmM m) (i : Int) : c_spec_JudgeWatcher (C k) (m, i) = some (mJudgeW m i) := by
  obtain ⟨k, rfl⟩ := pk (by omega)
  rw [u_spec_JudgeWatcher]
  have hp := hs.w
  simp only [spec_JudgeWatcher, L_spec_MatchOk (k := k) (by omega) m hs, L_spec_l01In (k := k) (by omega), some_bif, bnd_some, mJudgeW]
  rw [w64_id (x := len m.2.2.2.2.2.2.2.2.2.1 - 1) (by simp only [len]; omega) (by simp only [len]; omega)]
  cases h : mMatch m with
  | false => rfl
  | true =>
    cases hi : mIn i 0 (len m.2.2.2.2.2.2.2.2.2.1 - 1) with
    | false => rfl
    | true =>
      obtain ⟨e1, e2⟩ := in_inb hi
      have e1 : inb i (len m.2.2.2.2.2.2.2.2.2.1) = true := e1
      have hl := L_spec_LockstepAt (k := k) (by omega) m hs (List.getD m.2.2.2.2.2.2.2.2.2.1 i.toNat dSpectator).1.2.1 (0, 0, 0)
      have hl : c_spec_LockstepAt (C k) (m, (List.getD m.2.2.2.2.2.2.2.2.2.1 i.toNat dSpectator).1.2.1, 0, 0, 0) = _ := hl
      simp only [Bool.not_true, cond_false, e1, ck_true, hl, bnd_some, mLock, h, Bool.true_and]
      cases ht : mIn (List.getD m.2.2.2.2.2.2.2.2.2.1 i.toNat dSpectator).1.2.1 0 400 with
      | false => rfl
      | true =>
        have hw := lock_sm hs h (List.getD m.2.2.2.2.2.2.2.2.2.1 i.toNat dSpectator).1.2.1.toNat (0, 0, 0)
        simp only [cond_true, L_spec_SameWorld (k := k) (by omega) _ _ hw.r hw.s hw.b, bnd_some, Bool.true_and]
theorem L_impl_JudgeWatcher {k : Nat} (hk : 11 <= k) (m : TMatch) (hs : SmM m) (i : Int) : c_impl_JudgeWatcher (C k) (m, i) = some (mJudgeW m i) := by
  obtain ⟨k, rfl⟩ := pk (by omega)
  rw [u_impl_JudgeWatcher]
  have hp := hs.w
  simp only [impl_JudgeWatcher, some_bif, bnd_some, mJudgeW, own_in]
  cases hi : mIn i 0 (len m.2.2.2.2.2.2.2.2.2.1 - 1) with
  | false => rw [Bool.false_and, Bool.and_false]; rfl
  | true =>
    obtain ⟨e1, e2⟩ := in_inb hi
    have e1 : inb i (len m.2.2.2.2.2.2.2.2.2.1) = true := e1
    have hl := L_impl_LockstepAt (k := k) (by omega) m hs (List.getD m.2.2.2.2.2.2.2.2.2.1 i.toNat dSpectator).1.2.1 (0, 0, 0)
    have hl : c_impl_LockstepAt (C k) (m, (List.getD m.2.2.2.2.2.2.2.2.2.1 i.toNat dSpectator).1.2.1, 0, 0, 0) = _ := hl
    simp only [Bool.not_true, cond_false, e1, ck_true, hl, bnd_some, mLock]
    cases h : mMatch m with
    | false => rfl
    | true =>
      cases ht : mIn (List.getD m.2.2.2.2.2.2.2.2.2.1 i.toNat dSpectator).1.2.1 0 400 with
      | false => rfl
      | true =>
        have hw := lock_sm hs h (List.getD m.2.2.2.2.2.2.2.2.2.1 i.toNat dSpectator).1.2.1.toNat (0, 0, 0)
        simp only [Bool.and_self, cond_true, L_impl_SameWorld (k := k) (by omega) _ _ hw.r hw.s hw.b, bnd_some, Bool.true_and]
theorem law_JudgeWatcher (m : TMatch) (i : Int) (hm : wfT SMatch m) (hi : wfT i64 i) : ∃ k, c_laws_FnExactJudgeWatcher (C k) (m, i) = some true := by
  refine ⟨20 + 1, ?_⟩
  rw [u_laws_FnExactJudgeWatcher]
  obtain ⟨r, h1, _, h3⟩ := Z_laws_szMatch (k := 20) (by omega) m 1048576 hm (by decide) (by decide)
  simp only [laws_FnExactJudgeWatcher, h1, bnd_some]
  cases hr : ilss r 0 with
  | true => rfl
  | false =>
    have h0 : 0 <= r := by
      simp only [ilss, decide_eq_false_iff_not] at hr
      omega
    have hsm := h3 h0
    have hs := SmM_of hsm
    simp only [cond_false, L_laws_toMatch (k := 20) (by omega) m hsm, L_laws_eqMatch (k := 20) (by omega) m hsm, L_spec_JudgeWatcher (k := 20) (by omega) m hs i, L_impl_JudgeWatcher (k := 20) (by omega) m hs i, bnd_some]
    cases mJudgeW m i <;> rfl
end Go.Proofs.YtaflceohlijekaaGreat.Ev
