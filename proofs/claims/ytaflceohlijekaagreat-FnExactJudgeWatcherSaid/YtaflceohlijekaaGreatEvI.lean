/- A part of the proof that for every match and every number, the program's JudgeWatcher answers as the specification's JudgeWatcher does, and leaves its arguments as they were; there is no condition. -/
import Derived.Test.YtaflceohlijekaaGreatEvH
set_option linter.unusedVariables false
set_option linter.unusedSimpArgs false
namespace Go.Proofs.YtaflceohlijekaaGreat.Ev
theorem pk {k n : Nat} (h : n + 1 <= k) : ∃ j, k = j + 1 := ⟨k - 1, by omega⟩
section
variable {α β V R : Type}
theorem bnd_some (a : α) (k : α -> Option R) : bnd (some a) k = k a := rfl
theorem bnd_bif (c : Bool) (a b : Option α) (k : α -> Option R) : bnd (bif c then a else b) k = bif c then bnd a k else bnd b k := by cases c <;> rfl
theorem bnd_same (a : Option α) : bnd a (fun r => some r) = a := by cases a <;> rfl
theorem ck_true (k : Option R) : ck true k = k := rfl
theorem ck_of {b : Bool} (h : b = true) (k : Option R) : ck b k = k := by rw [h]; rfl
theorem bif_of {b : Bool} (h : b = true) (x y : α) : (bif b then x else y) = x := by rw [h]; rfl
theorem bif_no {b : Bool} (h : b = false) (x y : α) : (bif b then x else y) = y := by rw [h]; rfl
variable {body : V -> (V -> Option R) -> Option R} {v v' : V}
theorem step_uniq {v v' : V} (r : R) (h : ∀ ag : V -> Option R, ag v = ag v') : v = v' := by
  classical
  have := h (fun x => if x = v then some r else none)
  simp only [if_true] at this
  split at this
  · rename_i e; exact e.symm
  · cases this
theorem runs_det {r r' : R} (h : Runs body v r) : Runs body v r' -> r = r' := by
  induction h with
  | stop hs =>
    intro h2
    cases h2 with
    | stop hs' => have := (hs (fun _ => none)).symm.trans (hs' _); simpa using this
    | step hs' _ => have := (hs (fun _ => none)).symm.trans (hs' _); cases this
  | step hs _ ih =>
    rename_i r0 _
    intro h2
    cases h2 with
    | stop hs' => have := (hs (fun _ => none)).symm.trans (hs' _); cases this
    | step hs' h3 =>
      have := step_uniq r0 (fun ag => (hs ag).symm.trans (hs' ag))
      subst this
      exact ih h3
theorem loopW_iff {r : R} : loopW body v = some r ↔ Runs body v r := by
  unfold loopW
  constructor
  · intro h
    split at h
    · rename_i hx; cases h; exact hx.choose_spec
    · cases h
  · intro h
    have hx : ∃ r, Runs body v r := ⟨r, h⟩
    rw [dif_pos hx, runs_det hx.choose_spec h]
theorem loopW_step (h : ∀ ag, body v ag = ag v') : loopW body v = loopW body v' := by
  apply Option.ext
  intro r
  constructor
  · intro h1
    have h1 := loopW_iff.1 h1
    refine loopW_iff.2 ?_
    cases h1 with
    | stop hs => have := (h (fun _ => none)).symm.trans (hs _); cases this
    | step hs h2 =>
      have := step_uniq r (fun ag => (h ag).symm.trans (hs ag))
      subst this
      exact h2
  · intro h1
    exact loopW_iff.2 (.step h (loopW_iff.1 h1))
theorem loopW_stop {o : Option R} (h : ∀ ag, body v ag = o) : loopW body v = o := by
  apply Option.ext
  intro r
  constructor
  · intro h1
    have h1 := loopW_iff.1 h1
    cases h1 with
    | stop hs => exact (h (fun _ => none)).symm.trans (hs _)
    | step hs h2 =>
      exfalso
      have e1 := (hs (fun _ => none)).symm.trans (h _)
      have e2 := (hs (fun _ => some r)).symm.trans (h _)
      rw [<- e1] at e2
      cases e2
  · intro h1
    subst h1
    exact loopW_iff.2 (.stop h)
theorem loop_for {S : Type} (N : Nat) (st : Nat -> S -> V) (I : Nat -> S -> Prop) (f : Nat -> S -> Sum R S) (K : S -> Option R)
    (h : ∀ n s, n < N -> I n s -> (∀ ag, body (st n s) ag = match f n s with | .inl r => some r | .inr s' => ag (st (n + 1) s')) /\ ∀ s', f n s = .inr s' -> I (n + 1) s')
    (he : ∀ s, I N s -> ∀ ag, body (st N s) ag = K s) :
    ∀ (d n : Nat) (s : S), n + d = N -> I n s -> ∃ s', ((∃ r m s1, m < N /\ I m s1 /\ f m s1 = .inl r /\ loopW body (st n s) = some r) \/ (I N s' /\ loopW body (st n s) = K s')) 
  | 0, n, s, hn, hi => by
    have : n = N := by omega
    subst this
    exact ⟨s, .inr ⟨hi, loopW_stop (he s hi)⟩⟩
  | d + 1, n, s, hn, hi => by
    obtain ⟨h1, h2⟩ := h n s (by omega) hi
    cases hf : f n s with
    | inl r =>
      rw [hf] at h1
      exact ⟨s, .inl ⟨r, n, s, by omega, hi, hf, loopW_stop h1⟩⟩
    | inr s' =>
      rw [hf] at h1
      rw [loopW_step h1]
      exact loop_for N st I f K h he d (n + 1) s' (by omega) (h2 s' hf)
theorem loop_all (xs : List α) (st : Nat -> V) (p : α -> Bool) (r0 : R) (K : Option R)
    (h : ∀ n (hn : n < xs.length), ∀ ag, body (st n) ag = bif p xs[n] then ag (st (n + 1)) else some r0)
    (he : ∀ ag, body (st xs.length) ag = K) : ∀ (d n : Nat), n + d = xs.length -> loopW body (st n) = bif (xs.drop n).all p then K else some r0
  | 0, n, hn => by
    have : n = xs.length := by omega
    subst this
    rw [loopW_stop he, List.drop_length]
    rfl
  | d + 1, n, hn => by
    have hlt : n < xs.length := by omega
    have h1 := h n hlt
    rw [List.drop_eq_getElem_cons hlt, List.all_cons]
    cases hp : p xs[n] with
    | true =>
      rw [hp] at h1
      rw [loopW_step h1, Bool.true_and]
      exact loop_all xs st p r0 K h he d (n + 1) (by omega)
    | false =>
      rw [hp] at h1
      exact loopW_stop h1
theorem loop_all0 (xs : List α) (st : Nat -> V) (p : α -> Bool) (r0 : R) (K : Option R)
    (h : ∀ n (hn : n < xs.length), ∀ ag, body (st n) ag = bif p xs[n] then ag (st (n + 1)) else some r0)
    (he : ∀ ag, body (st xs.length) ag = K) : loopW body (st 0) = bif xs.all p then K else some r0 := by
  have := loop_all xs st p r0 K h he xs.length 0 (by omega)
  rwa [List.drop_zero] at this
theorem loop_fill (xs : List α) (d0 : α) (st : Nat -> List α -> V) (K : Option R)
    (h : ∀ n out (hn : n < xs.length), out.length = xs.length -> ∀ ag, body (st n out) ag = ag (st (n + 1) (out.set n xs[n])))
    (he : ∀ ag, body (st xs.length xs) ag = K) : loopW body (st 0 (List.replicate xs.length d0)) = K := by
  have key : ∀ (d n : Nat), n + d = xs.length -> loopW body (st n (xs.take n ++ List.replicate d d0)) = K := by
    intro d
    induction d with
    | zero =>
      intro n hn
      have : n = xs.length := by omega
      subst this
      simp only [List.take_length, List.replicate_zero, List.append_nil]
      exact loopW_stop he
    | succ d ih =>
      intro n hn
      have hlt : n < xs.length := by omega
      rw [loopW_step (h n _ hlt (by simp; omega))]
      have : (xs.take n ++ List.replicate (d + 1) d0).set n xs[n] = xs.take (n + 1) ++ List.replicate d d0 := by
        have hl : (xs.take n).length = n := by simp; omega
        rw [List.set_append_right _ _ (by omega), hl, Nat.sub_self, List.replicate_succ, List.set_cons_zero, List.take_succ_eq_append_getElem hlt, List.append_assoc]
        rfl
      rw [this]
      exact ih (n + 1) (by omega)
  have := key xs.length 0 (by omega)
  simpa using this
end
theorem w64_id {x : Int} (h1 : -9223372036854775808 <= x) (h2 : x <= 9223372036854775807) : w64 x = x := by
  simp only [w64, IntKind.wrap, IntKind.bits, IntKind.signed]
  simp
  split <;> omega
theorem w64_succ {n m : Nat} (h : n < m) (hm : m <= maxLen) : w64 ((n : Int) + 1) = ((n + 1 : Nat) : Int) := by
  have : maxLen <= 9223372036854775807 := by decide
  rw [w64_id (by omega) (by omega)]
  omega
theorem inb_nat (n : Nat) {m : Nat} (h : n < m) : inb (n : Int) (m : Int) = true := by
  simp only [inb, Bool.and_eq_true, decide_eq_true_eq]
  omega
theorem ilss_nat {n m : Nat} (h : n < m) : ilss (n : Int) (m : Int) = true := by
  simp only [ilss, decide_eq_true_eq]
  omega
theorem ilss_end (m : Nat) : ilss (m : Int) (m : Int) = false := by simp [ilss]
theorem getD_lt {α : Type} {xs : List α} {n : Nat} (h : n < xs.length) (d : α) : List.getD xs n d = xs[n] := by simp [List.getD_eq_getElem?_getD, h]
theorem ineq_self (x : Int) : ineq x x = false := by simp [ineq]
theorem seq_self (x : ByteArray) : seq x x = true := by simp [seq]
theorem mkb_len {n m : Nat} (h : n <= m) : mkb (n : Int) (n : Int) (m : Int) = true := by
  simp only [mkb, Bool.and_eq_true, decide_eq_true_eq]
  omega
def small (B : Nat) : (s : Sh) -> s.T -> Prop
  | .str, s => s.size <= B | .sl e, xs => xs.length <= B /\ ∀ x ∈ xs, small B e x | .pair a b, x => small B a x.1 /\ small B b x.2 | _, _ => True
theorem loop_sz {α V : Type} {body : V -> (V -> Option Int) -> Option Int} (xs : List α) (st : Nat -> Int -> V) (P : α -> Prop)
    (h : ∀ n (hn : n < xs.length) l, 0 <= l -> l <= 1048576 -> ∃ r, r <= l /\ (0 <= r -> P xs[n]) /\ ∀ ag, body (st n l) ag = bif ilss r 0 then some (-1) else ag (st (n + 1) r))
    (he : ∀ l ag, body (st xs.length l) ag = some l) (l : Int) (h0 : 0 <= l) (h1 : l <= 1048576) : ∃ r, loopW body (st 0 l) = some r /\ r <= l /\ (0 <= r -> ∀ x ∈ xs, P x) := by
  have key : ∀ (d n : Nat) (l : Int), n + d = xs.length -> 0 <= l -> l <= 1048576 -> ∃ r, loopW body (st n l) = some r /\ r <= l /\ (0 <= r -> ∀ x ∈ xs.drop n, P x) := by
    intro d
    induction d with
    | zero =>
      intro n l hn h0 h1
      have : n = xs.length := by omega
      subst this
      exact ⟨l, loopW_stop (he l), Int.le_refl _, fun _ x hx => by simp at hx⟩
    | succ d ih =>
      intro n l hn h0 h1
      have hlt : n < xs.length := by omega
      obtain ⟨r, r1, r2, r3⟩ := h n hlt l h0 h1
      by_cases hr : r < 0
      · have : ilss r 0 = true := by simpa [ilss] using hr
        rw [this] at r3
        exact ⟨-1, loopW_stop r3, by omega, fun q => by omega⟩
      · have : ilss r 0 = false := by simp only [ilss, decide_eq_false_iff_not]; exact hr
        rw [this] at r3
        obtain ⟨r', e1, e2, e3⟩ := ih (n + 1) r (by omega) (by omega) (by omega)
        rw [loopW_step r3]
        refine ⟨r', e1, by omega, fun q x hx => ?_⟩
        rw [List.drop_eq_getElem_cons hlt, List.mem_cons] at hx
        rcases hx with rfl | hx
        · exact r2 (by omega)
        · exact e3 q x hx
  have := key xs.length 0 l (by omega) h0 h1
  simpa using this
theorem sz_sub {l : Int} {n : Nat} (h0 : 0 <= l) (h1 : l <= 1048576) (hn : n <= maxLen) : w64 (l - (n : Int)) = l - n := by
  have : maxLen <= 9223372036854775807 := by decide
  exact w64_id (by omega) (by omega)
theorem ilss_neg {r : Int} (h : r < 0) : ilss r 0 = true := by simpa [ilss] using h
theorem ilss_pos {r : Int} (h : ¬ r < 0) : ilss r 0 = false := by simp only [ilss, decide_eq_false_iff_not]; exact h
section
variable {α β V R S : Type} {body : V -> (V -> Option R) -> Option R}
theorem loop_foldI (xs : List α) (st : Nat -> S -> V) (I : S -> Prop) (f : S -> α -> S) (K : S -> Option R)
    (h : ∀ n (hn : n < xs.length) s, I s -> I (f s xs[n]) /\ ∀ ag, body (st n s) ag = ag (st (n + 1) (f s xs[n]))) (he : ∀ s, I s -> ∀ ag, body (st xs.length s) ag = K s) :
    ∀ (d n : Nat) (s : S), n + d = xs.length -> I s -> loopW body (st n s) = K ((xs.drop n).foldl f s) /\ I ((xs.drop n).foldl f s)
  | 0, n, s, hn, hi => by
    have : n = xs.length := by omega
    subst this
    rw [List.drop_length]
    exact ⟨loopW_stop (he s hi), hi⟩
  | d + 1, n, s, hn, hi => by
    have hlt : n < xs.length := by omega
    obtain ⟨h1, h2⟩ := h n hlt s hi
    rw [loopW_step h2, List.drop_eq_getElem_cons hlt]
    exact loop_foldI xs st I f K h he d (n + 1) _ (by omega) h1
theorem loop_fold (xs : List α) (st : Nat -> S -> V) (f : S -> α -> S) (K : S -> Option R)
    (h : ∀ n (hn : n < xs.length) s, ∀ ag, body (st n s) ag = ag (st (n + 1) (f s xs[n]))) (he : ∀ s, ∀ ag, body (st xs.length s) ag = K s) (n : Nat) (hn : n <= xs.length) (s : S) : loopW body (st n s) = K ((xs.drop n).foldl f s) :=
  (loop_foldI xs st (fun _ => True) f K (fun n hn s _ => ⟨trivial, h n hn s⟩) (fun s _ => he s) (xs.length - n) n s (by omega) trivial).1
theorem loop_all2 (a : List α) (b : List β) (hab : a.length = b.length) (st : Nat -> V) (p : α -> β -> Bool) (r0 : R) (K : Option R)
    (h : ∀ n (hn : n < a.length) (hn2 : n < b.length), ∀ ag, body (st n) ag = bif p a[n] b[n] then ag (st (n + 1)) else some r0)
    (he : ∀ ag, body (st a.length) ag = K) : loopW body (st 0) = bif (a.zip b).all (fun q => p q.1 q.2) then K else some r0 := by
  have hl : (a.zip b).length = a.length := by simp [hab]
  refine loop_all0 (a.zip b) st (fun q => p q.1 q.2) r0 K (fun n hn ag => ?_) (fun ag => by rw [hl]; exact he ag)
  have h1 : n < a.length := by omega
  have h2 : n < b.length := by omega
  rw [h n h1 h2 ag, List.getElem_zip]
end
theorem iand_mask (x : Int) (h0 : 0 <= x) (h1 : x < 9223372036854775808) (m : Nat) (hm : m < 63) : iand .i64 x ((2 ^ m - 1 : Nat) : Int) = x % ((2 ^ m : Nat) : Int) := by
  obtain ⟨n, rfl⟩ := Int.eq_ofNat_of_zero_le h0
  have hp : (2 : Nat) ^ m <= 2 ^ 62 := Nat.pow_le_pow_right (by omega) (by omega)
  have hp1 : 0 < (2 : Nat) ^ m := Nat.two_pow_pos m
  have e1 : (BitVec.ofInt 64 (n : Int)).toNat = n := by rw [BitVec.toNat_ofInt]; omega
  have e2 : (BitVec.ofInt 64 ((2 ^ m - 1 : Nat) : Int)).toNat = 2 ^ m - 1 := by rw [BitVec.toNat_ofInt]; omega
  have e3 : ((BitVec.ofInt 64 (n : Int)) &&& (BitVec.ofInt 64 ((2 ^ m - 1 : Nat) : Int))).toNat = n % 2 ^ m := by
    rw [BitVec.toNat_and, e1, e2, Nat.and_two_pow_sub_one_eq_mod]
  show IntKind.wrap .i64 (((BitVec.ofInt 64 (n : Int)) &&& (BitVec.ofInt 64 ((2 ^ m - 1 : Nat) : Int))).toNat : Int) = _
  rw [e3]
  have hlt : n % 2 ^ m < 2 ^ m := Nat.mod_lt _ hp1
  have := w64_id (x := ((n % 2 ^ m : Nat) : Int)) (by omega) (by omega)
  rw [show IntKind.wrap .i64 ((n % 2 ^ m : Nat) : Int) = _ from this]
  exact Int.natCast_emod n (2 ^ m)
def mFold {S : Type} (f : Nat -> S -> Option S) : Nat -> Nat -> S -> Option S
  | 0, _, s => some s
  | d + 1, n, s => match f n s with | some s' => mFold f d (n + 1) s' | none => none
theorem mFold_at {S : Type} {f : Nat -> S -> Option S} : ∀ {d n : Nat} {s s' : S}, mFold f d n s = some s' -> ∀ m, n <= m -> m < n + d -> ∃ s1 s2, f m s1 = some s2
  | 0, n, s, s', h, m, h1, h2 => by omega
  | d + 1, n, s, s', h, m, h1, h2 => by
    simp only [mFold] at h
    split at h
    · rename_i s1 hs
      by_cases hm : m = n
      · subst hm; exact ⟨_, _, hs⟩
      · exact mFold_at h m (by omega) (by omega)
    · cases h
section
variable {V R S : Type} {body : V -> (V -> Option R) -> Option R}
theorem loop_opt (N : Nat) (st : Nat -> S -> V) (f : Nat -> S -> Option S) (r0 : Option R) (K : S -> Option R)
    (h : ∀ n s, n < N -> ∀ ag, body (st n s) ag = match f n s with | none => r0 | some s' => ag (st (n + 1) s')) (he : ∀ s ag, body (st N s) ag = K s) :
    ∀ (d n : Nat) (s : S), n + d = N -> loopW body (st n s) = match mFold f d n s with | none => r0 | some s' => K s'
  | 0, n, s, hn => by
    have : n = N := by omega
    subst this
    exact loopW_stop (he s)
  | d + 1, n, s, hn => by
    have h1 := h n s (by omega)
    simp only [mFold]
    cases hf : f n s with
    | none => rw [hf] at h1; exact loopW_stop h1
    | some s' =>
      rw [hf] at h1
      rw [loopW_step h1]
      exact loop_opt N st f r0 K h he d (n + 1) s' (by omega)
theorem loop_allN (N : Nat) (st : Nat -> V) (p : Nat -> Bool) (r0 : R) (K : Option R)
    (h : ∀ n, n < N -> ∀ ag, body (st n) ag = bif p n then ag (st (n + 1)) else some r0) (he : ∀ ag, body (st N) ag = K) : loopW body (st 0) = bif (List.range N).all p then K else some r0 := by
  refine loop_all0 (List.range N) st p r0 K (fun n hn ag => ?_) (fun ag => by rw [List.length_range]; exact he ag)
  rw [List.length_range] at hn
  rw [List.getElem_range]
  exact h n hn ag
end
end Go.Proofs.YtaflceohlijekaaGreat.Ev
namespace Go.Proofs.YtaflceohlijekaaGreat.Ev
theorem L_laws_eqBody {k : Nat} (hk : 1 <= k) (x : TBody) (hs : small 1048576 SBody x) : c_laws_eqBody (C k) (x, x) = some true := by
  obtain ⟨k, rfl⟩ := pk (by omega)
  rw [u_laws_eqBody]
  simp only [laws_eqBody, bnd_some, ineq_self, seq_self, cond_false, Bool.not_true, Bool.not_false]
theorem L_laws_eqFault {k : Nat} (hk : 1 <= k) (x : TFault) (hs : small 1048576 SFault x) : c_laws_eqFault (C k) (x, x) = some true := by
  obtain ⟨k, rfl⟩ := pk (by omega)
  rw [u_laws_eqFault]
  simp only [laws_eqFault, bnd_some, ineq_self, seq_self, cond_false, Bool.not_true, Bool.not_false]
theorem L_laws_eqFlight {k : Nat} (hk : 1 <= k) (x : TSave) (hs : small 1048576 SSave x) : c_laws_eqFlight (C k) (x, x) = some true := by
  obtain ⟨k, rfl⟩ := pk (by omega)
  rw [u_laws_eqFlight]
  simp only [laws_eqFlight, bnd_some, ineq_self, seq_self, cond_false, Bool.not_true, Bool.not_false]
theorem L_laws_eqIntS {k : Nat} (hk : 1 <= k) (x : (List Int)) (hs : small 1048576 (.sl i64) x) : c_laws_eqIntS (C k) (x, x) = some true := by
  obtain ⟨k, rfl⟩ := pk (by omega)
  rw [u_laws_eqIntS]
  have hl : x.length <= 1048576 := hs.1
  have hm : x.length <= maxLen := Nat.le_trans hl (by decide)
  simp only [laws_eqIntS, ineq_self, cond_false]
  refine (loop_all0 x (fun n => (x, x, (n : Int), ())) (fun _ => true) false (some true) (fun n hn ag => ?_) (fun ag => ?_)).trans (by rw [List.all_eq_true.2 (fun _ _ => rfl)]; rfl)
  · have e0 : inb (n : Int) (len x) = true := inb_nat n hn
    have e2 : ilss (n : Int) (len x) = true := ilss_nat hn
    simp only [laws_eqIntS_l0, Int.toNat_natCast, e0, e2, cond_true, cond_false, ck_true, getD_lt hn, w64_succ hn hm, ineq_self, seq_self, Bool.not_true]
  · have e2 : ilss (x.length : Int) (len x) = false := ilss_end _
    simp only [laws_eqIntS_l0, e2, cond_false]
theorem L_laws_eqPace {k : Nat} (hk : 1 <= k) (x : TPace) (hs : small 1048576 SPace x) : c_laws_eqPace (C k) (x, x) = some true := by
  obtain ⟨k, rfl⟩ := pk (by omega)
  rw [u_laws_eqPace]
  simp only [laws_eqPace, bnd_some, ineq_self, seq_self, cond_false, Bool.not_true, Bool.not_false]
theorem L_laws_eqSave {k : Nat} (hk : 1 <= k) (x : TSave) (hs : small 1048576 SSave x) : c_laws_eqSave (C k) (x, x) = some true := by
  obtain ⟨k, rfl⟩ := pk (by omega)
  rw [u_laws_eqSave]
  simp only [laws_eqSave, bnd_some, ineq_self, seq_self, cond_false, Bool.not_true, Bool.not_false]
theorem L_laws_eqStringS {k : Nat} (hk : 1 <= k) (x : (List ByteArray)) (hs : small 1048576 (.sl .str) x) : c_laws_eqStringS (C k) (x, x) = some true := by
  obtain ⟨k, rfl⟩ := pk (by omega)
  rw [u_laws_eqStringS]
  have hl : x.length <= 1048576 := hs.1
  have hm : x.length <= maxLen := Nat.le_trans hl (by decide)
  simp only [laws_eqStringS, ineq_self, cond_false]
  refine (loop_all0 x (fun n => (x, x, (n : Int), ())) (fun _ => true) false (some true) (fun n hn ag => ?_) (fun ag => ?_)).trans (by rw [List.all_eq_true.2 (fun _ _ => rfl)]; rfl)
  · have e0 : inb (n : Int) (len x) = true := inb_nat n hn
    have e2 : ilss (n : Int) (len x) = true := ilss_nat hn
    simp only [laws_eqStringS_l0, Int.toNat_natCast, e0, e2, cond_true, cond_false, ck_true, getD_lt hn, w64_succ hn hm, ineq_self, seq_self, Bool.not_true]
  · have e2 : ilss (x.length : Int) (len x) = false := ilss_end _
    simp only [laws_eqStringS_l0, e2, cond_false]
theorem Z_laws_szBodyS {k : Nat} (hk : 1 <= k) (a : (List TBody)) (l : Int) (hw : wfT (.sl SBody) a) (h0 : 0 <= l) (h1 : l <= 1048576) : ∃ r, c_laws_szBodyS (C k) (a, l) = some r /\ r <= l /\ (0 <= r -> small 1048576 (.sl SBody) a) := by
  obtain ⟨k, rfl⟩ := pk (by omega)
  rw [u_laws_szBodyS]
  have hm : a.length <= maxLen := hw.1
  have hsub : w64 (l - len a) = l - (a.length : Int) := sz_sub h0 h1 hm
  simp only [laws_szBodyS, hsub]
  by_cases hneg : l - (a.length : Int) < 0
  · rw [ilss_neg hneg]
    exact ⟨-1, rfl, by omega, fun q => by omega⟩
  rw [ilss_pos hneg, cond_false]
  exact ⟨_, rfl, by omega, fun _ => ⟨by omega, fun x _ => ⟨trivial, ⟨trivial, ⟨trivial, ⟨trivial, ⟨trivial, ⟨trivial, ⟨trivial, ⟨trivial, trivial⟩⟩⟩⟩⟩⟩⟩⟩⟩⟩
theorem Z_laws_szFlight {k : Nat} (hk : 1 <= k) (a : TSave) (l : Int) (hw : wfT SSave a) (h0 : 0 <= l) (h1 : l <= 1048576) : ∃ r, c_laws_szFlight (C k) (a, l) = some r /\ r <= l /\ (0 <= r -> small 1048576 SSave a) := by
  obtain ⟨k, rfl⟩ := pk (by omega)
  rw [u_laws_szFlight]
  simp only [laws_szFlight]
  have hz : w64 (l - slen a.2) = l - ((a.2).size : Int) := sz_sub (by omega) (by omega) hw.2
  simp only [hz]
  by_cases hneg : l - ((a.2).size : Int) < 0
  · rw [ilss_neg hneg]
    exact ⟨-1, rfl, by omega, fun q => by omega⟩
  rw [ilss_pos hneg, cond_false]
  exact ⟨_, rfl, by omega, fun _ => ⟨trivial, (by show (a.2).size <= 1048576; omega)⟩⟩
theorem Z_laws_szIntS {k : Nat} (hk : 1 <= k) (a : (List Int)) (l : Int) (hw : wfT (.sl i64) a) (h0 : 0 <= l) (h1 : l <= 1048576) : ∃ r, c_laws_szIntS (C k) (a, l) = some r /\ r <= l /\ (0 <= r -> small 1048576 (.sl i64) a) := by
  obtain ⟨k, rfl⟩ := pk (by omega)
  rw [u_laws_szIntS]
  have hm : a.length <= maxLen := hw.1
  have hsub : w64 (l - len a) = l - (a.length : Int) := sz_sub h0 h1 hm
  simp only [laws_szIntS, hsub]
  by_cases hneg : l - (a.length : Int) < 0
  · rw [ilss_neg hneg]
    exact ⟨-1, rfl, by omega, fun q => by omega⟩
  rw [ilss_pos hneg, cond_false]
  exact ⟨_, rfl, by omega, fun _ => ⟨by omega, fun x _ => trivial⟩⟩
theorem Z_laws_szPaceS {k : Nat} (hk : 1 <= k) (a : (List TPace)) (l : Int) (hw : wfT (.sl SPace) a) (h0 : 0 <= l) (h1 : l <= 1048576) : ∃ r, c_laws_szPaceS (C k) (a, l) = some r /\ r <= l /\ (0 <= r -> small 1048576 (.sl SPace) a) := by
  obtain ⟨k, rfl⟩ := pk (by omega)
  rw [u_laws_szPaceS]
  have hm : a.length <= maxLen := hw.1
  have hsub : w64 (l - len a) = l - (a.length : Int) := sz_sub h0 h1 hm
  simp only [laws_szPaceS, hsub]
  by_cases hneg : l - (a.length : Int) < 0
  · rw [ilss_neg hneg]
    exact ⟨-1, rfl, by omega, fun q => by omega⟩
  rw [ilss_pos hneg, cond_false]
  exact ⟨_, rfl, by omega, fun _ => ⟨by omega, fun x _ => ⟨trivial, ⟨trivial, ⟨trivial, ⟨trivial, trivial⟩⟩⟩⟩⟩⟩
theorem Z_laws_szSave {k : Nat} (hk : 1 <= k) (a : TSave) (l : Int) (hw : wfT SSave a) (h0 : 0 <= l) (h1 : l <= 1048576) : ∃ r, c_laws_szSave (C k) (a, l) = some r /\ r <= l /\ (0 <= r -> small 1048576 SSave a) := by
  obtain ⟨k, rfl⟩ := pk (by omega)
  rw [u_laws_szSave]
  simp only [laws_szSave]
  have hz : w64 (l - slen a.2) = l - ((a.2).size : Int) := sz_sub (by omega) (by omega) hw.2
  simp only [hz]
  by_cases hneg : l - ((a.2).size : Int) < 0
  · rw [ilss_neg hneg]
    exact ⟨-1, rfl, by omega, fun q => by omega⟩
  rw [ilss_pos hneg, cond_false]
  exact ⟨_, rfl, by omega, fun _ => ⟨trivial, (by show (a.2).size <= 1048576; omega)⟩⟩
theorem Z_laws_szStringS {k : Nat} (hk : 1 <= k) (a : (List ByteArray)) (l : Int) (hw : wfT (.sl .str) a) (h0 : 0 <= l) (h1 : l <= 1048576) : ∃ r, c_laws_szStringS (C k) (a, l) = some r /\ r <= l /\ (0 <= r -> small 1048576 (.sl .str) a) := by
  obtain ⟨k, rfl⟩ := pk (by omega)
  rw [u_laws_szStringS]
  have hm : a.length <= maxLen := hw.1
  have hsub : w64 (l - len a) = l - (a.length : Int) := sz_sub h0 h1 hm
  simp only [laws_szStringS, hsub]
  by_cases hneg : l - (a.length : Int) < 0
  · rw [ilss_neg hneg]
    exact ⟨-1, rfl, by omega, fun q => by omega⟩
  rw [ilss_pos hneg, cond_false]
  have s1 : ∀ n (hn : n < a.length) l', 0 <= l' -> l' <= 1048576 -> ∃ r, r <= l' /\ (0 <= r -> small 1048576 .str a[n]) /\ ∀ ag, laws_szStringS_l0 (C k) (fun v => some v.1) (a, l', (n : Int), ()) ag = bif ilss r 0 then some (-1) else ag (a, r, ((n + 1 : Nat) : Int), ()) := by
    intro n hn l' g0 g1
    have e0 : inb (n : Int) (len a) = true := inb_nat n hn
    have e2 : ilss (n : Int) (len a) = true := ilss_nat hn
    have hwn := hw.2 _ (List.getElem_mem hn)
    have hz : w64 (l' - slen a[n]) = l' - (a[n].size : Int) := sz_sub g0 g1 hwn
    refine ⟨l' - (a[n].size : Int), by omega, fun q => (by show a[n].size <= 1048576; omega), fun ag => ?_⟩
    simp only [laws_szStringS_l0, Int.toNat_natCast, e0, e2, cond_true, ck_true, getD_lt hn, w64_succ hn hm, hz]
  have s2 : ∀ l' ag, laws_szStringS_l0 (C k) (fun v => some v.1) (a, l', (a.length : Int), ()) ag = some l' := by
    intro l' ag
    have e2 : ilss (a.length : Int) (len a) = false := ilss_end _
    simp only [laws_szStringS_l0, e2, cond_false]
  obtain ⟨r, r1, r2, r3⟩ := loop_sz (body := laws_szStringS_l0 (C k) (fun v => some v.1)) a (fun n l => (a, l, (n : Int), ())) (small 1048576 .str) s1 s2 (l - (a.length : Int)) (by omega) (by omega)
  exact ⟨r, r1, by omega, fun q => ⟨by omega, r3 q⟩⟩
theorem L_laws_toBody {k : Nat} (hk : 1 <= k) (x : TBody) (hs : small 1048576 SBody x) : c_laws_toBody (C k) x = some x := by
  obtain ⟨k, rfl⟩ := pk (by omega)
  rw [u_laws_toBody]
  simp only [laws_toBody, bnd_some]
theorem L_laws_toFault {k : Nat} (hk : 1 <= k) (x : TFault) (hs : small 1048576 SFault x) : c_laws_toFault (C k) x = some x := by
  obtain ⟨k, rfl⟩ := pk (by omega)
  rw [u_laws_toFault]
  simp only [laws_toFault, bnd_some]
theorem L_laws_toFlight {k : Nat} (hk : 1 <= k) (x : TSave) (hs : small 1048576 SSave x) : c_laws_toFlight (C k) x = some x := by
  obtain ⟨k, rfl⟩ := pk (by omega)
  rw [u_laws_toFlight]
  simp only [laws_toFlight, bnd_some]
theorem L_laws_toIntS {k : Nat} (hk : 1 <= k) (x : (List Int)) (hs : small 1048576 (.sl i64) x) : c_laws_toIntS (C k) x = some x := by
  obtain ⟨k, rfl⟩ := pk (by omega)
  rw [u_laws_toIntS]
  have hl : x.length <= 1048576 := hs.1
  have hm : x.length <= maxLen := Nat.le_trans hl (by decide)
  simp only [laws_toIntS]
  rw [ck_of (by simp only [mkb, len, Bool.and_eq_true, decide_eq_true_eq]; omega), show Int.toNat (len x) = x.length from rfl]
  refine loop_fill x (0 : Int) (fun n out => (x, (n : Int), out, ())) _ (fun n out hn ho ag => ?_) (fun ag => ?_)
  · have e0 : inb (n : Int) (len x) = true := inb_nat n hn
    have e1 : inb (n : Int) (len out) = true := inb_nat n (by omega)
    have e2 : ilss (n : Int) (len x) = true := ilss_nat hn
    simp only [laws_toIntS_l0, Int.toNat_natCast, e0, e1, e2, cond_true, ck_true, getD_lt hn, w64_succ hn hm]
  · have e2 : ilss (x.length : Int) (len x) = false := ilss_end _
    simp only [laws_toIntS_l0, e2, cond_false]
theorem L_laws_toPace {k : Nat} (hk : 1 <= k) (x : TPace) (hs : small 1048576 SPace x) : c_laws_toPace (C k) x = some x := by
  obtain ⟨k, rfl⟩ := pk (by omega)
  rw [u_laws_toPace]
  simp only [laws_toPace, bnd_some]
theorem L_laws_toSave {k : Nat} (hk : 1 <= k) (x : TSave) (hs : small 1048576 SSave x) : c_laws_toSave (C k) x = some x := by
  obtain ⟨k, rfl⟩ := pk (by omega)
  rw [u_laws_toSave]
  simp only [laws_toSave, bnd_some]
theorem L_laws_toStringS {k : Nat} (hk : 1 <= k) (x : (List ByteArray)) (hs : small 1048576 (.sl .str) x) : c_laws_toStringS (C k) x = some x := by
  obtain ⟨k, rfl⟩ := pk (by omega)
  rw [u_laws_toStringS]
  have hl : x.length <= 1048576 := hs.1
  have hm : x.length <= maxLen := Nat.le_trans hl (by decide)
  simp only [laws_toStringS]
  rw [ck_of (by simp only [mkb, len, Bool.and_eq_true, decide_eq_true_eq]; omega), show Int.toNat (len x) = x.length from rfl]
  refine loop_fill x eS (fun n out => (x, (n : Int), out, ())) _ (fun n out hn ho ag => ?_) (fun ag => ?_)
  · have e0 : inb (n : Int) (len x) = true := inb_nat n hn
    have e1 : inb (n : Int) (len out) = true := inb_nat n (by omega)
    have e2 : ilss (n : Int) (len x) = true := ilss_nat hn
    simp only [laws_toStringS_l0, Int.toNat_natCast, e0, e1, e2, cond_true, ck_true, getD_lt hn, w64_succ hn hm]
  · have e2 : ilss (x.length : Int) (len x) = false := ilss_end _
    simp only [laws_toStringS_l0, e2, cond_false]
theorem L_laws_eqAlarm {k : Nat} (hk : 2 <= k) (x : TAlarm) (hs : small 1048576 SAlarm x) : c_laws_eqAlarm (C k) (x, x) = some true := by
  obtain ⟨k, rfl⟩ := pk (by omega)
  rw [u_laws_eqAlarm]
  simp only [laws_eqAlarm, L_laws_eqStringS (k := k) (by omega) x.2 hs.2, bnd_some, ineq_self, seq_self, cond_false, Bool.not_true, Bool.not_false]
theorem L_laws_eqBodyS {k : Nat} (hk : 2 <= k) (x : (List TBody)) (hs : small 1048576 (.sl SBody) x) : c_laws_eqBodyS (C k) (x, x) = some true := by
  obtain ⟨k, rfl⟩ := pk (by omega)
  rw [u_laws_eqBodyS]
  have hl : x.length <= 1048576 := hs.1
  have hm : x.length <= maxLen := Nat.le_trans hl (by decide)
  simp only [laws_eqBodyS, ineq_self, cond_false]
  refine (loop_all0 x (fun n => (x, x, (n : Int), ())) (fun _ => true) false (some true) (fun n hn ag => ?_) (fun ag => ?_)).trans (by rw [List.all_eq_true.2 (fun _ _ => rfl)]; rfl)
  · have e0 : inb (n : Int) (len x) = true := inb_nat n hn
    have e2 : ilss (n : Int) (len x) = true := ilss_nat hn
    simp only [laws_eqBodyS_l0, Int.toNat_natCast, e0, e2, cond_true, cond_false, ck_true, getD_lt hn, w64_succ hn hm, ineq_self, seq_self, Bool.not_true, L_laws_eqBody (k := k) (by omega) x[n] (hs.2 _ (List.getElem_mem hn)), bnd_some]
  · have e2 : ilss (x.length : Int) (len x) = false := ilss_end _
    simp only [laws_eqBodyS_l0, e2, cond_false]
theorem L_laws_eqFlightS {k : Nat} (hk : 2 <= k) (x : (List TSave)) (hs : small 1048576 (.sl SSave) x) : c_laws_eqFlightS (C k) (x, x) = some true := by
  obtain ⟨k, rfl⟩ := pk (by omega)
  rw [u_laws_eqFlightS]
  have hl : x.length <= 1048576 := hs.1
  have hm : x.length <= maxLen := Nat.le_trans hl (by decide)
  simp only [laws_eqFlightS, ineq_self, cond_false]
  refine (loop_all0 x (fun n => (x, x, (n : Int), ())) (fun _ => true) false (some true) (fun n hn ag => ?_) (fun ag => ?_)).trans (by rw [List.all_eq_true.2 (fun _ _ => rfl)]; rfl)
  · have e0 : inb (n : Int) (len x) = true := inb_nat n hn
    have e2 : ilss (n : Int) (len x) = true := ilss_nat hn
    simp only [laws_eqFlightS_l0, Int.toNat_natCast, e0, e2, cond_true, cond_false, ck_true, getD_lt hn, w64_succ hn hm, ineq_self, seq_self, Bool.not_true, L_laws_eqFlight (k := k) (by omega) x[n] (hs.2 _ (List.getElem_mem hn)), bnd_some]
  · have e2 : ilss (x.length : Int) (len x) = false := ilss_end _
    simp only [laws_eqFlightS_l0, e2, cond_false]
theorem L_laws_eqIntSS {k : Nat} (hk : 2 <= k) (x : (List (List Int))) (hs : small 1048576 (.sl (.sl i64)) x) : c_laws_eqIntSS (C k) (x, x) = some true := by
  obtain ⟨k, rfl⟩ := pk (by omega)
  rw [u_laws_eqIntSS]
  have hl : x.length <= 1048576 := hs.1
  have hm : x.length <= maxLen := Nat.le_trans hl (by decide)
  simp only [laws_eqIntSS, ineq_self, cond_false]
  refine (loop_all0 x (fun n => (x, x, (n : Int), ())) (fun _ => true) false (some true) (fun n hn ag => ?_) (fun ag => ?_)).trans (by rw [List.all_eq_true.2 (fun _ _ => rfl)]; rfl)
  · have e0 : inb (n : Int) (len x) = true := inb_nat n hn
    have e2 : ilss (n : Int) (len x) = true := ilss_nat hn
    simp only [laws_eqIntSS_l0, Int.toNat_natCast, e0, e2, cond_true, cond_false, ck_true, getD_lt hn, w64_succ hn hm, ineq_self, seq_self, Bool.not_true, L_laws_eqIntS (k := k) (by omega) x[n] (hs.2 _ (List.getElem_mem hn)), bnd_some]
  · have e2 : ilss (x.length : Int) (len x) = false := ilss_end _
    simp only [laws_eqIntSS_l0, e2, cond_false]
theorem L_laws_eqLevel {k : Nat} (hk : 2 <= k) (x : (List ByteArray)) (hs : small 1048576 (.sl .str) x) : c_laws_eqLevel (C k) (x, x) = some true := by
  obtain ⟨k, rfl⟩ := pk (by omega)
  rw [u_laws_eqLevel]
  simp only [laws_eqLevel, L_laws_eqStringS (k := k) (by omega) x hs, bnd_some, ineq_self, seq_self, cond_false, Bool.not_true, Bool.not_false]
theorem L_laws_eqPaceS {k : Nat} (hk : 2 <= k) (x : (List TPace)) (hs : small 1048576 (.sl SPace) x) : c_laws_eqPaceS (C k) (x, x) = some true := by
  obtain ⟨k, rfl⟩ := pk (by omega)
  rw [u_laws_eqPaceS]
  have hl : x.length <= 1048576 := hs.1
  have hm : x.length <= maxLen := Nat.le_trans hl (by decide)
  simp only [laws_eqPaceS, ineq_self, cond_false]
  refine (loop_all0 x (fun n => (x, x, (n : Int), ())) (fun _ => true) false (some true) (fun n hn ag => ?_) (fun ag => ?_)).trans (by rw [List.all_eq_true.2 (fun _ _ => rfl)]; rfl)
  · have e0 : inb (n : Int) (len x) = true := inb_nat n hn
    have e2 : ilss (n : Int) (len x) = true := ilss_nat hn
    simp only [laws_eqPaceS_l0, Int.toNat_natCast, e0, e2, cond_true, cond_false, ck_true, getD_lt hn, w64_succ hn hm, ineq_self, seq_self, Bool.not_true, L_laws_eqPace (k := k) (by omega) x[n] (hs.2 _ (List.getElem_mem hn)), bnd_some]
  · have e2 : ilss (x.length : Int) (len x) = false := ilss_end _
    simp only [laws_eqPaceS_l0, e2, cond_false]
theorem L_laws_eqSaveS {k : Nat} (hk : 2 <= k) (x : (List TSave)) (hs : small 1048576 (.sl SSave) x) : c_laws_eqSaveS (C k) (x, x) = some true := by
  obtain ⟨k, rfl⟩ := pk (by omega)
  rw [u_laws_eqSaveS]
  have hl : x.length <= 1048576 := hs.1
  have hm : x.length <= maxLen := Nat.le_trans hl (by decide)
  simp only [laws_eqSaveS, ineq_self, cond_false]
  refine (loop_all0 x (fun n => (x, x, (n : Int), ())) (fun _ => true) false (some true) (fun n hn ag => ?_) (fun ag => ?_)).trans (by rw [List.all_eq_true.2 (fun _ _ => rfl)]; rfl)
  · have e0 : inb (n : Int) (len x) = true := inb_nat n hn
    have e2 : ilss (n : Int) (len x) = true := ilss_nat hn
    simp only [laws_eqSaveS_l0, Int.toNat_natCast, e0, e2, cond_true, cond_false, ck_true, getD_lt hn, w64_succ hn hm, ineq_self, seq_self, Bool.not_true, L_laws_eqSave (k := k) (by omega) x[n] (hs.2 _ (List.getElem_mem hn)), bnd_some]
  · have e2 : ilss (x.length : Int) (len x) = false := ilss_end _
    simp only [laws_eqSaveS_l0, e2, cond_false]
theorem L_laws_eqTrack {k : Nat} (hk : 2 <= k) (x : (List Int)) (hs : small 1048576 (.sl i64) x) : c_laws_eqTrack (C k) (x, x) = some true := by
  obtain ⟨k, rfl⟩ := pk (by omega)
  rw [u_laws_eqTrack]
  simp only [laws_eqTrack, L_laws_eqIntS (k := k) (by omega) x hs, bnd_some, ineq_self, seq_self, cond_false, Bool.not_true, Bool.not_false]
theorem Z_laws_szAlarm {k : Nat} (hk : 2 <= k) (a : TAlarm) (l : Int) (hw : wfT SAlarm a) (h0 : 0 <= l) (h1 : l <= 1048576) : ∃ r, c_laws_szAlarm (C k) (a, l) = some r /\ r <= l /\ (0 <= r -> small 1048576 SAlarm a) := by
  obtain ⟨k, rfl⟩ := pk (by omega)
  rw [u_laws_szAlarm]
  simp only [laws_szAlarm]
  obtain ⟨r0, e0, b0, s0⟩ := Z_laws_szStringS (k := k) (by omega) a.2 l hw.2 (by omega) (by omega)
  rw [e0, bnd_some]
  by_cases n0 : r0 < 0
  · rw [ilss_neg n0]
    exact ⟨-1, rfl, by omega, fun q => by omega⟩
  rw [ilss_pos n0, cond_false]
  exact ⟨_, rfl, by omega, fun _ => ⟨trivial, s0 (by omega)⟩⟩
theorem Z_laws_szFlightS {k : Nat} (hk : 2 <= k) (a : (List TSave)) (l : Int) (hw : wfT (.sl SSave) a) (h0 : 0 <= l) (h1 : l <= 1048576) : ∃ r, c_laws_szFlightS (C k) (a, l) = some r /\ r <= l /\ (0 <= r -> small 1048576 (.sl SSave) a) := by
  obtain ⟨k, rfl⟩ := pk (by omega)
  rw [u_laws_szFlightS]
  have hm : a.length <= maxLen := hw.1
  have hsub : w64 (l - len a) = l - (a.length : Int) := sz_sub h0 h1 hm
  simp only [laws_szFlightS, hsub]
  by_cases hneg : l - (a.length : Int) < 0
  · rw [ilss_neg hneg]
    exact ⟨-1, rfl, by omega, fun q => by omega⟩
  rw [ilss_pos hneg, cond_false]
  have s1 : ∀ n (hn : n < a.length) l', 0 <= l' -> l' <= 1048576 -> ∃ r, r <= l' /\ (0 <= r -> small 1048576 SSave a[n]) /\ ∀ ag, laws_szFlightS_l0 (C k) (fun v => some v.1) (a, l', (n : Int), ()) ag = bif ilss r 0 then some (-1) else ag (a, r, ((n + 1 : Nat) : Int), ()) := by
    intro n hn l' g0 g1
    have e0 : inb (n : Int) (len a) = true := inb_nat n hn
    have e2 : ilss (n : Int) (len a) = true := ilss_nat hn
    have hwn := hw.2 _ (List.getElem_mem hn)
    obtain ⟨r, r1, r2, r3⟩ := Z_laws_szFlight (k := k) (by omega) a[n] l' hwn g0 g1
    refine ⟨r, r2, r3, fun ag => ?_⟩
    simp only [laws_szFlightS_l0, Int.toNat_natCast, e0, e2, cond_true, ck_true, getD_lt hn, w64_succ hn hm, r1, bnd_some]
  have s2 : ∀ l' ag, laws_szFlightS_l0 (C k) (fun v => some v.1) (a, l', (a.length : Int), ()) ag = some l' := by
    intro l' ag
    have e2 : ilss (a.length : Int) (len a) = false := ilss_end _
    simp only [laws_szFlightS_l0, e2, cond_false]
  obtain ⟨r, r1, r2, r3⟩ := loop_sz (body := laws_szFlightS_l0 (C k) (fun v => some v.1)) a (fun n l => (a, l, (n : Int), ())) (small 1048576 SSave) s1 s2 (l - (a.length : Int)) (by omega) (by omega)
  exact ⟨r, r1, by omega, fun q => ⟨by omega, r3 q⟩⟩
theorem Z_laws_szIntSS {k : Nat} (hk : 2 <= k) (a : (List (List Int))) (l : Int) (hw : wfT (.sl (.sl i64)) a) (h0 : 0 <= l) (h1 : l <= 1048576) : ∃ r, c_laws_szIntSS (C k) (a, l) = some r /\ r <= l /\ (0 <= r -> small 1048576 (.sl (.sl i64)) a) := by
  obtain ⟨k, rfl⟩ := pk (by omega)
  rw [u_laws_szIntSS]
  have hm : a.length <= maxLen := hw.1
  have hsub : w64 (l - len a) = l - (a.length : Int) := sz_sub h0 h1 hm
  simp only [laws_szIntSS, hsub]
  by_cases hneg : l - (a.length : Int) < 0
  · rw [ilss_neg hneg]
    exact ⟨-1, rfl, by omega, fun q => by omega⟩
  rw [ilss_pos hneg, cond_false]
  have s1 : ∀ n (hn : n < a.length) l', 0 <= l' -> l' <= 1048576 -> ∃ r, r <= l' /\ (0 <= r -> small 1048576 (.sl i64) a[n]) /\ ∀ ag, laws_szIntSS_l0 (C k) (fun v => some v.1) (a, l', (n : Int), ()) ag = bif ilss r 0 then some (-1) else ag (a, r, ((n + 1 : Nat) : Int), ()) := by
    intro n hn l' g0 g1
    have e0 : inb (n : Int) (len a) = true := inb_nat n hn
    have e2 : ilss (n : Int) (len a) = true := ilss_nat hn
    have hwn := hw.2 _ (List.getElem_mem hn)
    obtain ⟨r, r1, r2, r3⟩ := Z_laws_szIntS (k := k) (by omega) a[n] l' hwn g0 g1
    refine ⟨r, r2, r3, fun ag => ?_⟩
    simp only [laws_szIntSS_l0, Int.toNat_natCast, e0, e2, cond_true, ck_true, getD_lt hn, w64_succ hn hm, r1, bnd_some]
  have s2 : ∀ l' ag, laws_szIntSS_l0 (C k) (fun v => some v.1) (a, l', (a.length : Int), ()) ag = some l' := by
    intro l' ag
    have e2 : ilss (a.length : Int) (len a) = false := ilss_end _
    simp only [laws_szIntSS_l0, e2, cond_false]
  obtain ⟨r, r1, r2, r3⟩ := loop_sz (body := laws_szIntSS_l0 (C k) (fun v => some v.1)) a (fun n l => (a, l, (n : Int), ())) (small 1048576 (.sl i64)) s1 s2 (l - (a.length : Int)) (by omega) (by omega)
  exact ⟨r, r1, by omega, fun q => ⟨by omega, r3 q⟩⟩
theorem Z_laws_szLevel {k : Nat} (hk : 2 <= k) (a : (List ByteArray)) (l : Int) (hw : wfT (.sl .str) a) (h0 : 0 <= l) (h1 : l <= 1048576) : ∃ r, c_laws_szLevel (C k) (a, l) = some r /\ r <= l /\ (0 <= r -> small 1048576 (.sl .str) a) := by
  obtain ⟨k, rfl⟩ := pk (by omega)
  rw [u_laws_szLevel]
  simp only [laws_szLevel]
  obtain ⟨r0, e0, b0, s0⟩ := Z_laws_szStringS (k := k) (by omega) a l hw (by omega) (by omega)
  rw [e0, bnd_some]
  by_cases n0 : r0 < 0
  · rw [ilss_neg n0]
    exact ⟨-1, rfl, by omega, fun q => by omega⟩
  rw [ilss_pos n0, cond_false]
  exact ⟨_, rfl, by omega, fun _ => s0 (by omega)⟩
theorem Z_laws_szPaceSS {k : Nat} (hk : 2 <= k) (a : (List (List TPace))) (l : Int) (hw : wfT (.sl (.sl SPace)) a) (h0 : 0 <= l) (h1 : l <= 1048576) : ∃ r, c_laws_szPaceSS (C k) (a, l) = some r /\ r <= l /\ (0 <= r -> small 1048576 (.sl (.sl SPace)) a) := by
  obtain ⟨k, rfl⟩ := pk (by omega)
  rw [u_laws_szPaceSS]
  have hm : a.length <= maxLen := hw.1
  have hsub : w64 (l - len a) = l - (a.length : Int) := sz_sub h0 h1 hm
  simp only [laws_szPaceSS, hsub]
  by_cases hneg : l - (a.length : Int) < 0
  · rw [ilss_neg hneg]
    exact ⟨-1, rfl, by omega, fun q => by omega⟩
  rw [ilss_pos hneg, cond_false]
  have s1 : ∀ n (hn : n < a.length) l', 0 <= l' -> l' <= 1048576 -> ∃ r, r <= l' /\ (0 <= r -> small 1048576 (.sl SPace) a[n]) /\ ∀ ag, laws_szPaceSS_l0 (C k) (fun v => some v.1) (a, l', (n : Int), ()) ag = bif ilss r 0 then some (-1) else ag (a, r, ((n + 1 : Nat) : Int), ()) := by
    intro n hn l' g0 g1
    have e0 : inb (n : Int) (len a) = true := inb_nat n hn
    have e2 : ilss (n : Int) (len a) = true := ilss_nat hn
    have hwn := hw.2 _ (List.getElem_mem hn)
    obtain ⟨r, r1, r2, r3⟩ := Z_laws_szPaceS (k := k) (by omega) a[n] l' hwn g0 g1
    refine ⟨r, r2, r3, fun ag => ?_⟩
    simp only [laws_szPaceSS_l0, Int.toNat_natCast, e0, e2, cond_true, ck_true, getD_lt hn, w64_succ hn hm, r1, bnd_some]
  have s2 : ∀ l' ag, laws_szPaceSS_l0 (C k) (fun v => some v.1) (a, l', (a.length : Int), ()) ag = some l' := by
    intro l' ag
    have e2 : ilss (a.length : Int) (len a) = false := ilss_end _
    simp only [laws_szPaceSS_l0, e2, cond_false]
  obtain ⟨r, r1, r2, r3⟩ := loop_sz (body := laws_szPaceSS_l0 (C k) (fun v => some v.1)) a (fun n l => (a, l, (n : Int), ())) (small 1048576 (.sl SPace)) s1 s2 (l - (a.length : Int)) (by omega) (by omega)
  exact ⟨r, r1, by omega, fun q => ⟨by omega, r3 q⟩⟩
theorem Z_laws_szSaveS {k : Nat} (hk : 2 <= k) (a : (List TSave)) (l : Int) (hw : wfT (.sl SSave) a) (h0 : 0 <= l) (h1 : l <= 1048576) : ∃ r, c_laws_szSaveS (C k) (a, l) = some r /\ r <= l /\ (0 <= r -> small 1048576 (.sl SSave) a) := by
  obtain ⟨k, rfl⟩ := pk (by omega)
  rw [u_laws_szSaveS]
  have hm : a.length <= maxLen := hw.1
  have hsub : w64 (l - len a) = l - (a.length : Int) := sz_sub h0 h1 hm
  simp only [laws_szSaveS, hsub]
  by_cases hneg : l - (a.length : Int) < 0
  · rw [ilss_neg hneg]
    exact ⟨-1, rfl, by omega, fun q => by omega⟩
  rw [ilss_pos hneg, cond_false]
  have s1 : ∀ n (hn : n < a.length) l', 0 <= l' -> l' <= 1048576 -> ∃ r, r <= l' /\ (0 <= r -> small 1048576 SSave a[n]) /\ ∀ ag, laws_szSaveS_l0 (C k) (fun v => some v.1) (a, l', (n : Int), ()) ag = bif ilss r 0 then some (-1) else ag (a, r, ((n + 1 : Nat) : Int), ()) := by
    intro n hn l' g0 g1
    have e0 : inb (n : Int) (len a) = true := inb_nat n hn
    have e2 : ilss (n : Int) (len a) = true := ilss_nat hn
    have hwn := hw.2 _ (List.getElem_mem hn)
    obtain ⟨r, r1, r2, r3⟩ := Z_laws_szSave (k := k) (by omega) a[n] l' hwn g0 g1
    refine ⟨r, r2, r3, fun ag => ?_⟩
    simp only [laws_szSaveS_l0, Int.toNat_natCast, e0, e2, cond_true, ck_true, getD_lt hn, w64_succ hn hm, r1, bnd_some]
  have s2 : ∀ l' ag, laws_szSaveS_l0 (C k) (fun v => some v.1) (a, l', (a.length : Int), ()) ag = some l' := by
    intro l' ag
    have e2 : ilss (a.length : Int) (len a) = false := ilss_end _
    simp only [laws_szSaveS_l0, e2, cond_false]
  obtain ⟨r, r1, r2, r3⟩ := loop_sz (body := laws_szSaveS_l0 (C k) (fun v => some v.1)) a (fun n l => (a, l, (n : Int), ())) (small 1048576 SSave) s1 s2 (l - (a.length : Int)) (by omega) (by omega)
  exact ⟨r, r1, by omega, fun q => ⟨by omega, r3 q⟩⟩
theorem Z_laws_szTrack {k : Nat} (hk : 2 <= k) (a : (List Int)) (l : Int) (hw : wfT (.sl i64) a) (h0 : 0 <= l) (h1 : l <= 1048576) : ∃ r, c_laws_szTrack (C k) (a, l) = some r /\ r <= l /\ (0 <= r -> small 1048576 (.sl i64) a) := by
  obtain ⟨k, rfl⟩ := pk (by omega)
  rw [u_laws_szTrack]
  simp only [laws_szTrack]
  obtain ⟨r0, e0, b0, s0⟩ := Z_laws_szIntS (k := k) (by omega) a l hw (by omega) (by omega)
  rw [e0, bnd_some]
  by_cases n0 : r0 < 0
  · rw [ilss_neg n0]
    exact ⟨-1, rfl, by omega, fun q => by omega⟩
  rw [ilss_pos n0, cond_false]
  exact ⟨_, rfl, by omega, fun _ => s0 (by omega)⟩
theorem L_laws_toAlarm {k : Nat} (hk : 2 <= k) (x : TAlarm) (hs : small 1048576 SAlarm x) : c_laws_toAlarm (C k) x = some x := by
  obtain ⟨k, rfl⟩ := pk (by omega)
  rw [u_laws_toAlarm]
  simp only [laws_toAlarm, L_laws_toStringS (k := k) (by omega) x.2 hs.2, bnd_some]
theorem L_laws_toBodyS {k : Nat} (hk : 2 <= k) (x : (List TBody)) (hs : small 1048576 (.sl SBody) x) : c_laws_toBodyS (C k) x = some x := by
  obtain ⟨k, rfl⟩ := pk (by omega)
  rw [u_laws_toBodyS]
  have hl : x.length <= 1048576 := hs.1
  have hm : x.length <= maxLen := Nat.le_trans hl (by decide)
  simp only [laws_toBodyS]
  rw [ck_of (by simp only [mkb, len, Bool.and_eq_true, decide_eq_true_eq]; omega), show Int.toNat (len x) = x.length from rfl]
  refine loop_fill x dBody (fun n out => (x, (n : Int), out, ())) _ (fun n out hn ho ag => ?_) (fun ag => ?_)
  · have e0 : inb (n : Int) (len x) = true := inb_nat n hn
    have e1 : inb (n : Int) (len out) = true := inb_nat n (by omega)
    have e2 : ilss (n : Int) (len x) = true := ilss_nat hn
    simp only [laws_toBodyS_l0, Int.toNat_natCast, e0, e1, e2, cond_true, ck_true, getD_lt hn, w64_succ hn hm, L_laws_toBody (k := k) (by omega) x[n] (hs.2 _ (List.getElem_mem hn)), bnd_some]
  · have e2 : ilss (x.length : Int) (len x) = false := ilss_end _
    simp only [laws_toBodyS_l0, e2, cond_false]
theorem L_laws_toFlightS {k : Nat} (hk : 2 <= k) (x : (List TSave)) (hs : small 1048576 (.sl SSave) x) : c_laws_toFlightS (C k) x = some x := by
  obtain ⟨k, rfl⟩ := pk (by omega)
  rw [u_laws_toFlightS]
  have hl : x.length <= 1048576 := hs.1
  have hm : x.length <= maxLen := Nat.le_trans hl (by decide)
  simp only [laws_toFlightS]
  rw [ck_of (by simp only [mkb, len, Bool.and_eq_true, decide_eq_true_eq]; omega), show Int.toNat (len x) = x.length from rfl]
  refine loop_fill x dSave (fun n out => (x, (n : Int), out, ())) _ (fun n out hn ho ag => ?_) (fun ag => ?_)
  · have e0 : inb (n : Int) (len x) = true := inb_nat n hn
    have e1 : inb (n : Int) (len out) = true := inb_nat n (by omega)
    have e2 : ilss (n : Int) (len x) = true := ilss_nat hn
    simp only [laws_toFlightS_l0, Int.toNat_natCast, e0, e1, e2, cond_true, ck_true, getD_lt hn, w64_succ hn hm, L_laws_toFlight (k := k) (by omega) x[n] (hs.2 _ (List.getElem_mem hn)), bnd_some]
  · have e2 : ilss (x.length : Int) (len x) = false := ilss_end _
    simp only [laws_toFlightS_l0, e2, cond_false]
theorem L_laws_toIntSS {k : Nat} (hk : 2 <= k) (x : (List (List Int))) (hs : small 1048576 (.sl (.sl i64)) x) : c_laws_toIntSS (C k) x = some x := by
  obtain ⟨k, rfl⟩ := pk (by omega)
  rw [u_laws_toIntSS]
  have hl : x.length <= 1048576 := hs.1
  have hm : x.length <= maxLen := Nat.le_trans hl (by decide)
  simp only [laws_toIntSS]
  rw [ck_of (by simp only [mkb, len, Bool.and_eq_true, decide_eq_true_eq]; omega), show Int.toNat (len x) = x.length from rfl]
  refine loop_fill x [] (fun n out => (x, (n : Int), out, ())) _ (fun n out hn ho ag => ?_) (fun ag => ?_)
  · have e0 : inb (n : Int) (len x) = true := inb_nat n hn
    have e1 : inb (n : Int) (len out) = true := inb_nat n (by omega)
    have e2 : ilss (n : Int) (len x) = true := ilss_nat hn
    simp only [laws_toIntSS_l0, Int.toNat_natCast, e0, e1, e2, cond_true, ck_true, getD_lt hn, w64_succ hn hm, L_laws_toIntS (k := k) (by omega) x[n] (hs.2 _ (List.getElem_mem hn)), bnd_some]
  · have e2 : ilss (x.length : Int) (len x) = false := ilss_end _
    simp only [laws_toIntSS_l0, e2, cond_false]
theorem L_laws_toLevel {k : Nat} (hk : 2 <= k) (x : (List ByteArray)) (hs : small 1048576 (.sl .str) x) : c_laws_toLevel (C k) x = some x := by
  obtain ⟨k, rfl⟩ := pk (by omega)
  rw [u_laws_toLevel]
  simp only [laws_toLevel, L_laws_toStringS (k := k) (by omega) x hs, bnd_some]
theorem L_laws_toPaceS {k : Nat} (hk : 2 <= k) (x : (List TPace)) (hs : small 1048576 (.sl SPace) x) : c_laws_toPaceS (C k) x = some x := by
  obtain ⟨k, rfl⟩ := pk (by omega)
  rw [u_laws_toPaceS]
  have hl : x.length <= 1048576 := hs.1
  have hm : x.length <= maxLen := Nat.le_trans hl (by decide)
  simp only [laws_toPaceS]
  rw [ck_of (by simp only [mkb, len, Bool.and_eq_true, decide_eq_true_eq]; omega), show Int.toNat (len x) = x.length from rfl]
  refine loop_fill x dPace (fun n out => (x, (n : Int), out, ())) _ (fun n out hn ho ag => ?_) (fun ag => ?_)
  · have e0 : inb (n : Int) (len x) = true := inb_nat n hn
    have e1 : inb (n : Int) (len out) = true := inb_nat n (by omega)
    have e2 : ilss (n : Int) (len x) = true := ilss_nat hn
    simp only [laws_toPaceS_l0, Int.toNat_natCast, e0, e1, e2, cond_true, ck_true, getD_lt hn, w64_succ hn hm, L_laws_toPace (k := k) (by omega) x[n] (hs.2 _ (List.getElem_mem hn)), bnd_some]
  · have e2 : ilss (x.length : Int) (len x) = false := ilss_end _
    simp only [laws_toPaceS_l0, e2, cond_false]
theorem L_laws_toSaveS {k : Nat} (hk : 2 <= k) (x : (List TSave)) (hs : small 1048576 (.sl SSave) x) : c_laws_toSaveS (C k) x = some x := by
  obtain ⟨k, rfl⟩ := pk (by omega)
  rw [u_laws_toSaveS]
  have hl : x.length <= 1048576 := hs.1
  have hm : x.length <= maxLen := Nat.le_trans hl (by decide)
  simp only [laws_toSaveS]
  rw [ck_of (by simp only [mkb, len, Bool.and_eq_true, decide_eq_true_eq]; omega), show Int.toNat (len x) = x.length from rfl]
  refine loop_fill x dSave (fun n out => (x, (n : Int), out, ())) _ (fun n out hn ho ag => ?_) (fun ag => ?_)
  · have e0 : inb (n : Int) (len x) = true := inb_nat n hn
    have e1 : inb (n : Int) (len out) = true := inb_nat n (by omega)
    have e2 : ilss (n : Int) (len x) = true := ilss_nat hn
    simp only [laws_toSaveS_l0, Int.toNat_natCast, e0, e1, e2, cond_true, ck_true, getD_lt hn, w64_succ hn hm, L_laws_toSave (k := k) (by omega) x[n] (hs.2 _ (List.getElem_mem hn)), bnd_some]
  · have e2 : ilss (x.length : Int) (len x) = false := ilss_end _
    simp only [laws_toSaveS_l0, e2, cond_false]
theorem L_laws_toTrack {k : Nat} (hk : 2 <= k) (x : (List Int)) (hs : small 1048576 (.sl i64) x) : c_laws_toTrack (C k) x = some x := by
  obtain ⟨k, rfl⟩ := pk (by omega)
  rw [u_laws_toTrack]
  simp only [laws_toTrack, L_laws_toIntS (k := k) (by omega) x hs, bnd_some]
theorem L_laws_eqAlarmS {k : Nat} (hk : 3 <= k) (x : (List TAlarm)) (hs : small 1048576 (.sl SAlarm) x) : c_laws_eqAlarmS (C k) (x, x) = some true := by
  obtain ⟨k, rfl⟩ := pk (by omega)
  rw [u_laws_eqAlarmS]
  have hl : x.length <= 1048576 := hs.1
  have hm : x.length <= maxLen := Nat.le_trans hl (by decide)
  simp only [laws_eqAlarmS, ineq_self, cond_false]
  refine (loop_all0 x (fun n => (x, x, (n : Int), ())) (fun _ => true) false (some true) (fun n hn ag => ?_) (fun ag => ?_)).trans (by rw [List.all_eq_true.2 (fun _ _ => rfl)]; rfl)
  · have e0 : inb (n : Int) (len x) = true := inb_nat n hn
    have e2 : ilss (n : Int) (len x) = true := ilss_nat hn
    simp only [laws_eqAlarmS_l0, Int.toNat_natCast, e0, e2, cond_true, cond_false, ck_true, getD_lt hn, w64_succ hn hm, ineq_self, seq_self, Bool.not_true, L_laws_eqAlarm (k := k) (by omega) x[n] (hs.2 _ (List.getElem_mem hn)), bnd_some]
  · have e2 : ilss (x.length : Int) (len x) = false := ilss_end _
    simp only [laws_eqAlarmS_l0, e2, cond_false]
theorem L_laws_eqPaceSS {k : Nat} (hk : 3 <= k) (x : (List (List TPace))) (hs : small 1048576 (.sl (.sl SPace)) x) : c_laws_eqPaceSS (C k) (x, x) = some true := by
  obtain ⟨k, rfl⟩ := pk (by omega)
  rw [u_laws_eqPaceSS]
  have hl : x.length <= 1048576 := hs.1
  have hm : x.length <= maxLen := Nat.le_trans hl (by decide)
  simp only [laws_eqPaceSS, ineq_self, cond_false]
  refine (loop_all0 x (fun n => (x, x, (n : Int), ())) (fun _ => true) false (some true) (fun n hn ag => ?_) (fun ag => ?_)).trans (by rw [List.all_eq_true.2 (fun _ _ => rfl)]; rfl)
  · have e0 : inb (n : Int) (len x) = true := inb_nat n hn
    have e2 : ilss (n : Int) (len x) = true := ilss_nat hn
    simp only [laws_eqPaceSS_l0, Int.toNat_natCast, e0, e2, cond_true, cond_false, ck_true, getD_lt hn, w64_succ hn hm, ineq_self, seq_self, Bool.not_true, L_laws_eqPaceS (k := k) (by omega) x[n] (hs.2 _ (List.getElem_mem hn)), bnd_some]
  · have e2 : ilss (x.length : Int) (len x) = false := ilss_end _
    simp only [laws_eqPaceSS_l0, e2, cond_false]
theorem L_laws_eqTrackS {k : Nat} (hk : 3 <= k) (x : (List (List Int))) (hs : small 1048576 (.sl (.sl i64)) x) : c_laws_eqTrackS (C k) (x, x) = some true := by
  obtain ⟨k, rfl⟩ := pk (by omega)
  rw [u_laws_eqTrackS]
  have hl : x.length <= 1048576 := hs.1
  have hm : x.length <= maxLen := Nat.le_trans hl (by decide)
  simp only [laws_eqTrackS, ineq_self, cond_false]
  refine (loop_all0 x (fun n => (x, x, (n : Int), ())) (fun _ => true) false (some true) (fun n hn ag => ?_) (fun ag => ?_)).trans (by rw [List.all_eq_true.2 (fun _ _ => rfl)]; rfl)
  · have e0 : inb (n : Int) (len x) = true := inb_nat n hn
    have e2 : ilss (n : Int) (len x) = true := ilss_nat hn
    simp only [laws_eqTrackS_l0, Int.toNat_natCast, e0, e2, cond_true, cond_false, ck_true, getD_lt hn, w64_succ hn hm, ineq_self, seq_self, Bool.not_true, L_laws_eqTrack (k := k) (by omega) x[n] (hs.2 _ (List.getElem_mem hn)), bnd_some]
  · have e2 : ilss (x.length : Int) (len x) = false := ilss_end _
    simp only [laws_eqTrackS_l0, e2, cond_false]
theorem L_laws_eqWire {k : Nat} (hk : 3 <= k) (x : TWire) (hs : small 1048576 SWire x) : c_laws_eqWire (C k) (x, x) = some true := by
  obtain ⟨k, rfl⟩ := pk (by omega)
  rw [u_laws_eqWire]
  simp only [laws_eqWire, L_laws_eqFlightS (k := k) (by omega) x.2.2.2.2.2.2.2.1 hs.2.2.2.2.2.2.2.1, bnd_some, ineq_self, seq_self, cond_false, Bool.not_true, Bool.not_false]
theorem L_laws_eqWorld {k : Nat} (hk : 3 <= k) (x : TWorld) (hs : small 1048576 SWorld x) : c_laws_eqWorld (C k) (x, x) = some true := by
  obtain ⟨k, rfl⟩ := pk (by omega)
  rw [u_laws_eqWorld]
  simp only [laws_eqWorld, L_laws_eqLevel (k := k) (by omega) x.1 hs.1, L_laws_eqIntS (k := k) (by omega) x.2.2.2.1 hs.2.2.2.1, L_laws_eqBodyS (k := k) (by omega) x.2.2.2.2 hs.2.2.2.2, bnd_some, ineq_self, seq_self, cond_false, Bool.not_true, Bool.not_false]
theorem Z_laws_szAlarmS {k : Nat} (hk : 3 <= k) (a : (List TAlarm)) (l : Int) (hw : wfT (.sl SAlarm) a) (h0 : 0 <= l) (h1 : l <= 1048576) : ∃ r, c_laws_szAlarmS (C k) (a, l) = some r /\ r <= l /\ (0 <= r -> small 1048576 (.sl SAlarm) a) := by
  obtain ⟨k, rfl⟩ := pk (by omega)
  rw [u_laws_szAlarmS]
  have hm : a.length <= maxLen := hw.1
  have hsub : w64 (l - len a) = l - (a.length : Int) := sz_sub h0 h1 hm
  simp only [laws_szAlarmS, hsub]
  by_cases hneg : l - (a.length : Int) < 0
  · rw [ilss_neg hneg]
    exact ⟨-1, rfl, by omega, fun q => by omega⟩
  rw [ilss_pos hneg, cond_false]
  have s1 : ∀ n (hn : n < a.length) l', 0 <= l' -> l' <= 1048576 -> ∃ r, r <= l' /\ (0 <= r -> small 1048576 SAlarm a[n]) /\ ∀ ag, laws_szAlarmS_l0 (C k) (fun v => some v.1) (a, l', (n : Int), ()) ag = bif ilss r 0 then some (-1) else ag (a, r, ((n + 1 : Nat) : Int), ()) := by
    intro n hn l' g0 g1
    have e0 : inb (n : Int) (len a) = true := inb_nat n hn
    have e2 : ilss (n : Int) (len a) = true := ilss_nat hn
    have hwn := hw.2 _ (List.getElem_mem hn)
    obtain ⟨r, r1, r2, r3⟩ := Z_laws_szAlarm (k := k) (by omega) a[n] l' hwn g0 g1
    refine ⟨r, r2, r3, fun ag => ?_⟩
    simp only [laws_szAlarmS_l0, Int.toNat_natCast, e0, e2, cond_true, ck_true, getD_lt hn, w64_succ hn hm, r1, bnd_some]
  have s2 : ∀ l' ag, laws_szAlarmS_l0 (C k) (fun v => some v.1) (a, l', (a.length : Int), ()) ag = some l' := by
    intro l' ag
    have e2 : ilss (a.length : Int) (len a) = false := ilss_end _
    simp only [laws_szAlarmS_l0, e2, cond_false]
  obtain ⟨r, r1, r2, r3⟩ := loop_sz (body := laws_szAlarmS_l0 (C k) (fun v => some v.1)) a (fun n l => (a, l, (n : Int), ())) (small 1048576 SAlarm) s1 s2 (l - (a.length : Int)) (by omega) (by omega)
  exact ⟨r, r1, by omega, fun q => ⟨by omega, r3 q⟩⟩
theorem Z_laws_szTrackS {k : Nat} (hk : 3 <= k) (a : (List (List Int))) (l : Int) (hw : wfT (.sl (.sl i64)) a) (h0 : 0 <= l) (h1 : l <= 1048576) : ∃ r, c_laws_szTrackS (C k) (a, l) = some r /\ r <= l /\ (0 <= r -> small 1048576 (.sl (.sl i64)) a) := by
  obtain ⟨k, rfl⟩ := pk (by omega)
  rw [u_laws_szTrackS]
  have hm : a.length <= maxLen := hw.1
  have hsub : w64 (l - len a) = l - (a.length : Int) := sz_sub h0 h1 hm
  simp only [laws_szTrackS, hsub]
  by_cases hneg : l - (a.length : Int) < 0
  · rw [ilss_neg hneg]
    exact ⟨-1, rfl, by omega, fun q => by omega⟩
  rw [ilss_pos hneg, cond_false]
  have s1 : ∀ n (hn : n < a.length) l', 0 <= l' -> l' <= 1048576 -> ∃ r, r <= l' /\ (0 <= r -> small 1048576 (.sl i64) a[n]) /\ ∀ ag, laws_szTrackS_l0 (C k) (fun v => some v.1) (a, l', (n : Int), ()) ag = bif ilss r 0 then some (-1) else ag (a, r, ((n + 1 : Nat) : Int), ()) := by
    intro n hn l' g0 g1
    have e0 : inb (n : Int) (len a) = true := inb_nat n hn
    have e2 : ilss (n : Int) (len a) = true := ilss_nat hn
    have hwn := hw.2 _ (List.getElem_mem hn)
    obtain ⟨r, r1, r2, r3⟩ := Z_laws_szTrack (k := k) (by omega) a[n] l' hwn g0 g1
    refine ⟨r, r2, r3, fun ag => ?_⟩
    simp only [laws_szTrackS_l0, Int.toNat_natCast, e0, e2, cond_true, ck_true, getD_lt hn, w64_succ hn hm, r1, bnd_some]
  have s2 : ∀ l' ag, laws_szTrackS_l0 (C k) (fun v => some v.1) (a, l', (a.length : Int), ()) ag = some l' := by
    intro l' ag
    have e2 : ilss (a.length : Int) (len a) = false := ilss_end _
    simp only [laws_szTrackS_l0, e2, cond_false]
  obtain ⟨r, r1, r2, r3⟩ := loop_sz (body := laws_szTrackS_l0 (C k) (fun v => some v.1)) a (fun n l => (a, l, (n : Int), ())) (small 1048576 (.sl i64)) s1 s2 (l - (a.length : Int)) (by omega) (by omega)
  exact ⟨r, r1, by omega, fun q => ⟨by omega, r3 q⟩⟩
theorem Z_laws_szWire {k : Nat} (hk : 3 <= k) (a : TWire) (l : Int) (hw : wfT SWire a) (h0 : 0 <= l) (h1 : l <= 1048576) : ∃ r, c_laws_szWire (C k) (a, l) = some r /\ r <= l /\ (0 <= r -> small 1048576 SWire a) := by
  obtain ⟨k, rfl⟩ := pk (by omega)
  rw [u_laws_szWire]
  simp only [laws_szWire]
  obtain ⟨r0, e0, b0, s0⟩ := Z_laws_szFlightS (k := k) (by omega) a.2.2.2.2.2.2.2.1 l hw.2.2.2.2.2.2.2.1 (by omega) (by omega)
  rw [e0, bnd_some]
  by_cases n0 : r0 < 0
  · rw [ilss_neg n0]
    exact ⟨-1, rfl, by omega, fun q => by omega⟩
  rw [ilss_pos n0, cond_false]
  exact ⟨_, rfl, by omega, fun _ => ⟨trivial, ⟨trivial, ⟨trivial, ⟨trivial, ⟨trivial, ⟨trivial, ⟨trivial, ⟨s0 (by omega), ⟨trivial, trivial⟩⟩⟩⟩⟩⟩⟩⟩⟩⟩
theorem Z_laws_szWorld {k : Nat} (hk : 3 <= k) (a : TWorld) (l : Int) (hw : wfT SWorld a) (h0 : 0 <= l) (h1 : l <= 1048576) : ∃ r, c_laws_szWorld (C k) (a, l) = some r /\ r <= l /\ (0 <= r -> small 1048576 SWorld a) := by
  obtain ⟨k, rfl⟩ := pk (by omega)
  rw [u_laws_szWorld]
  simp only [laws_szWorld]
  obtain ⟨r0, e0, b0, s0⟩ := Z_laws_szLevel (k := k) (by omega) a.1 l hw.1 (by omega) (by omega)
  rw [e0, bnd_some]
  by_cases n0 : r0 < 0
  · rw [ilss_neg n0]
    exact ⟨-1, rfl, by omega, fun q => by omega⟩
  rw [ilss_pos n0, cond_false]
  obtain ⟨r1, e1, b1, s1⟩ := Z_laws_szIntS (k := k) (by omega) a.2.2.2.1 r0 hw.2.2.2.1 (by omega) (by omega)
  rw [e1, bnd_some]
  by_cases n1 : r1 < 0
  · rw [ilss_neg n1]
    exact ⟨-1, rfl, by omega, fun q => by omega⟩
  rw [ilss_pos n1, cond_false]
  obtain ⟨r2, e2, b2, s2⟩ := Z_laws_szBodyS (k := k) (by omega) a.2.2.2.2 r1 hw.2.2.2.2 (by omega) (by omega)
  rw [e2, bnd_some]
  by_cases n2 : r2 < 0
  · rw [ilss_neg n2]
    exact ⟨-1, rfl, by omega, fun q => by omega⟩
  rw [ilss_pos n2, cond_false]
  exact ⟨_, rfl, by omega, fun _ => ⟨s0 (by omega), ⟨trivial, ⟨trivial, ⟨s1 (by omega), s2 (by omega)⟩⟩⟩⟩⟩
theorem L_laws_toAlarmS {k : Nat} (hk : 3 <= k) (x : (List TAlarm)) (hs : small 1048576 (.sl SAlarm) x) : c_laws_toAlarmS (C k) x = some x := by
  obtain ⟨k, rfl⟩ := pk (by omega)
  rw [u_laws_toAlarmS]
  have hl : x.length <= 1048576 := hs.1
  have hm : x.length <= maxLen := Nat.le_trans hl (by decide)
  simp only [laws_toAlarmS]
  rw [ck_of (by simp only [mkb, len, Bool.and_eq_true, decide_eq_true_eq]; omega), show Int.toNat (len x) = x.length from rfl]
  refine loop_fill x dAlarm (fun n out => (x, (n : Int), out, ())) _ (fun n out hn ho ag => ?_) (fun ag => ?_)
  · have e0 : inb (n : Int) (len x) = true := inb_nat n hn
    have e1 : inb (n : Int) (len out) = true := inb_nat n (by omega)
    have e2 : ilss (n : Int) (len x) = true := ilss_nat hn
    simp only [laws_toAlarmS_l0, Int.toNat_natCast, e0, e1, e2, cond_true, ck_true, getD_lt hn, w64_succ hn hm, L_laws_toAlarm (k := k) (by omega) x[n] (hs.2 _ (List.getElem_mem hn)), bnd_some]
  · have e2 : ilss (x.length : Int) (len x) = false := ilss_end _
    simp only [laws_toAlarmS_l0, e2, cond_false]
theorem L_laws_toPaceSS {k : Nat} (hk : 3 <= k) (x : (List (List TPace))) (hs : small 1048576 (.sl (.sl SPace)) x) : c_laws_toPaceSS (C k) x = some x := by
  obtain ⟨k, rfl⟩ := pk (by omega)
  rw [u_laws_toPaceSS]
  have hl : x.length <= 1048576 := hs.1
  have hm : x.length <= maxLen := Nat.le_trans hl (by decide)
  simp only [laws_toPaceSS]
  rw [ck_of (by simp only [mkb, len, Bool.and_eq_true, decide_eq_true_eq]; omega), show Int.toNat (len x) = x.length from rfl]
  refine loop_fill x [] (fun n out => (x, (n : Int), out, ())) _ (fun n out hn ho ag => ?_) (fun ag => ?_)
  · have e0 : inb (n : Int) (len x) = true := inb_nat n hn
    have e1 : inb (n : Int) (len out) = true := inb_nat n (by omega)
    have e2 : ilss (n : Int) (len x) = true := ilss_nat hn
    simp only [laws_toPaceSS_l0, Int.toNat_natCast, e0, e1, e2, cond_true, ck_true, getD_lt hn, w64_succ hn hm, L_laws_toPaceS (k := k) (by omega) x[n] (hs.2 _ (List.getElem_mem hn)), bnd_some]
  · have e2 : ilss (x.length : Int) (len x) = false := ilss_end _
    simp only [laws_toPaceSS_l0, e2, cond_false]
theorem L_laws_toTrackS {k : Nat} (hk : 3 <= k) (x : (List (List Int))) (hs : small 1048576 (.sl (.sl i64)) x) : c_laws_toTrackS (C k) x = some x := by
  obtain ⟨k, rfl⟩ := pk (by omega)
  rw [u_laws_toTrackS]
  have hl : x.length <= 1048576 := hs.1
  have hm : x.length <= maxLen := Nat.le_trans hl (by decide)
  simp only [laws_toTrackS]
  rw [ck_of (by simp only [mkb, len, Bool.and_eq_true, decide_eq_true_eq]; omega), show Int.toNat (len x) = x.length from rfl]
  refine loop_fill x [] (fun n out => (x, (n : Int), out, ())) _ (fun n out hn ho ag => ?_) (fun ag => ?_)
  · have e0 : inb (n : Int) (len x) = true := inb_nat n hn
    have e1 : inb (n : Int) (len out) = true := inb_nat n (by omega)
    have e2 : ilss (n : Int) (len x) = true := ilss_nat hn
    simp only [laws_toTrackS_l0, Int.toNat_natCast, e0, e1, e2, cond_true, ck_true, getD_lt hn, w64_succ hn hm, L_laws_toTrack (k := k) (by omega) x[n] (hs.2 _ (List.getElem_mem hn)), bnd_some]
  · have e2 : ilss (x.length : Int) (len x) = false := ilss_end _
    simp only [laws_toTrackS_l0, e2, cond_false]
theorem L_laws_toWire {k : Nat} (hk : 3 <= k) (x : TWire) (hs : small 1048576 SWire x) : c_laws_toWire (C k) x = some x := by
  obtain ⟨k, rfl⟩ := pk (by omega)
  rw [u_laws_toWire]
  simp only [laws_toWire, L_laws_toFlightS (k := k) (by omega) x.2.2.2.2.2.2.2.1 hs.2.2.2.2.2.2.2.1, bnd_some]
theorem L_laws_toWorld {k : Nat} (hk : 3 <= k) (x : TWorld) (hs : small 1048576 SWorld x) : c_laws_toWorld (C k) x = some x := by
  obtain ⟨k, rfl⟩ := pk (by omega)
  rw [u_laws_toWorld]
  simp only [laws_toWorld, L_laws_toLevel (k := k) (by omega) x.1 hs.1, L_laws_toIntS (k := k) (by omega) x.2.2.2.1 hs.2.2.2.1, L_laws_toBodyS (k := k) (by omega) x.2.2.2.2 hs.2.2.2.2, bnd_some]
theorem L_laws_eqPeer {k : Nat} (hk : 4 <= k) (x : TPeer) (hs : small 1048576 SPeer x) : c_laws_eqPeer (C k) (x, x) = some true := by
  obtain ⟨k, rfl⟩ := pk (by omega)
  rw [u_laws_eqPeer]
  simp only [laws_eqPeer, L_laws_eqTrackS (k := k) (by omega) x.2.2.2.2.1 hs.2.2.2.2.1, L_laws_eqWorld (k := k) (by omega) x.2.2.2.2.2.1 hs.2.2.2.2.2.1, L_laws_eqWorld (k := k) (by omega) x.2.2.2.2.2.2.1 hs.2.2.2.2.2.2.1, L_laws_eqIntSS (k := k) (by omega) x.2.2.2.2.2.2.2.1 hs.2.2.2.2.2.2.2.1, L_laws_eqSaveS (k := k) (by omega) x.2.2.2.2.2.2.2.2.1 hs.2.2.2.2.2.2.2.2.1, L_laws_eqIntS (k := k) (by omega) x.2.2.2.2.2.2.2.2.2.1 hs.2.2.2.2.2.2.2.2.2.1, L_laws_eqFault (k := k) (by omega) x.2.2.2.2.2.2.2.2.2.2.1 hs.2.2.2.2.2.2.2.2.2.2.1, bnd_some, ineq_self, seq_self, cond_false, Bool.not_true, Bool.not_false]
theorem L_laws_eqSpectator {k : Nat} (hk : 4 <= k) (x : TSpectator) (hs : small 1048576 SSpectator x) : c_laws_eqSpectator (C k) (x, x) = some true := by
  obtain ⟨k, rfl⟩ := pk (by omega)
  rw [u_laws_eqSpectator]
  simp only [laws_eqSpectator, L_laws_eqWorld (k := k) (by omega) x.1 hs.1, bnd_some, ineq_self, seq_self, cond_false, Bool.not_true, Bool.not_false]
theorem L_laws_eqWireS {k : Nat} (hk : 4 <= k) (x : (List TWire)) (hs : small 1048576 (.sl SWire) x) : c_laws_eqWireS (C k) (x, x) = some true := by
  obtain ⟨k, rfl⟩ := pk (by omega)
  rw [u_laws_eqWireS]
  have hl : x.length <= 1048576 := hs.1
  have hm : x.length <= maxLen := Nat.le_trans hl (by decide)
  simp only [laws_eqWireS, ineq_self, cond_false]
  refine (loop_all0 x (fun n => (x, x, (n : Int), ())) (fun _ => true) false (some true) (fun n hn ag => ?_) (fun ag => ?_)).trans (by rw [List.all_eq_true.2 (fun _ _ => rfl)]; rfl)
  · have e0 : inb (n : Int) (len x) = true := inb_nat n hn
    have e2 : ilss (n : Int) (len x) = true := ilss_nat hn
    simp only [laws_eqWireS_l0, Int.toNat_natCast, e0, e2, cond_true, cond_false, ck_true, getD_lt hn, w64_succ hn hm, ineq_self, seq_self, Bool.not_true, L_laws_eqWire (k := k) (by omega) x[n] (hs.2 _ (List.getElem_mem hn)), bnd_some]
  · have e2 : ilss (x.length : Int) (len x) = false := ilss_end _
    simp only [laws_eqWireS_l0, e2, cond_false]
theorem Z_laws_szPeer {k : Nat} (hk : 4 <= k) (a : TPeer) (l : Int) (hw : wfT SPeer a) (h0 : 0 <= l) (h1 : l <= 1048576) : ∃ r, c_laws_szPeer (C k) (a, l) = some r /\ r <= l /\ (0 <= r -> small 1048576 SPeer a) := by
  obtain ⟨k, rfl⟩ := pk (by omega)
  rw [u_laws_szPeer]
  simp only [laws_szPeer]
  obtain ⟨r0, e0, b0, s0⟩ := Z_laws_szTrackS (k := k) (by omega) a.2.2.2.2.1 l hw.2.2.2.2.1 (by omega) (by omega)
  rw [e0, bnd_some]
  by_cases n0 : r0 < 0
  · rw [ilss_neg n0]
    exact ⟨-1, rfl, by omega, fun q => by omega⟩
  rw [ilss_pos n0, cond_false]
  obtain ⟨r1, e1, b1, s1⟩ := Z_laws_szWorld (k := k) (by omega) a.2.2.2.2.2.1 r0 hw.2.2.2.2.2.1 (by omega) (by omega)
  rw [e1, bnd_some]
  by_cases n1 : r1 < 0
  · rw [ilss_neg n1]
    exact ⟨-1, rfl, by omega, fun q => by omega⟩
  rw [ilss_pos n1, cond_false]
  obtain ⟨r2, e2, b2, s2⟩ := Z_laws_szWorld (k := k) (by omega) a.2.2.2.2.2.2.1 r1 hw.2.2.2.2.2.2.1 (by omega) (by omega)
  rw [e2, bnd_some]
  by_cases n2 : r2 < 0
  · rw [ilss_neg n2]
    exact ⟨-1, rfl, by omega, fun q => by omega⟩
  rw [ilss_pos n2, cond_false]
  obtain ⟨r3, e3, b3, s3⟩ := Z_laws_szIntSS (k := k) (by omega) a.2.2.2.2.2.2.2.1 r2 hw.2.2.2.2.2.2.2.1 (by omega) (by omega)
  rw [e3, bnd_some]
  by_cases n3 : r3 < 0
  · rw [ilss_neg n3]
    exact ⟨-1, rfl, by omega, fun q => by omega⟩
  rw [ilss_pos n3, cond_false]
  obtain ⟨r4, e4, b4, s4⟩ := Z_laws_szSaveS (k := k) (by omega) a.2.2.2.2.2.2.2.2.1 r3 hw.2.2.2.2.2.2.2.2.1 (by omega) (by omega)
  rw [e4, bnd_some]
  by_cases n4 : r4 < 0
  · rw [ilss_neg n4]
    exact ⟨-1, rfl, by omega, fun q => by omega⟩
  rw [ilss_pos n4, cond_false]
  obtain ⟨r5, e5, b5, s5⟩ := Z_laws_szIntS (k := k) (by omega) a.2.2.2.2.2.2.2.2.2.1 r4 hw.2.2.2.2.2.2.2.2.2.1 (by omega) (by omega)
  rw [e5, bnd_some]
  by_cases n5 : r5 < 0
  · rw [ilss_neg n5]
    exact ⟨-1, rfl, by omega, fun q => by omega⟩
  rw [ilss_pos n5, cond_false]
  exact ⟨_, rfl, by omega, fun _ => ⟨trivial, ⟨trivial, ⟨trivial, ⟨trivial, ⟨s0 (by omega), ⟨s1 (by omega), ⟨s2 (by omega), ⟨s3 (by omega), ⟨s4 (by omega), ⟨s5 (by omega), ⟨⟨trivial, ⟨trivial, trivial⟩⟩, ⟨trivial, trivial⟩⟩⟩⟩⟩⟩⟩⟩⟩⟩⟩⟩⟩
theorem Z_laws_szSpectator {k : Nat} (hk : 4 <= k) (a : TSpectator) (l : Int) (hw : wfT SSpectator a) (h0 : 0 <= l) (h1 : l <= 1048576) : ∃ r, c_laws_szSpectator (C k) (a, l) = some r /\ r <= l /\ (0 <= r -> small 1048576 SSpectator a) := by
  obtain ⟨k, rfl⟩ := pk (by omega)
  rw [u_laws_szSpectator]
  simp only [laws_szSpectator]
  obtain ⟨r0, e0, b0, s0⟩ := Z_laws_szWorld (k := k) (by omega) a.1 l hw.1 (by omega) (by omega)
  rw [e0, bnd_some]
  by_cases n0 : r0 < 0
  · rw [ilss_neg n0]
    exact ⟨-1, rfl, by omega, fun q => by omega⟩
  rw [ilss_pos n0, cond_false]
  exact ⟨_, rfl, by omega, fun _ => ⟨s0 (by omega), trivial⟩⟩
theorem Z_laws_szWireS {k : Nat} (hk : 4 <= k) (a : (List TWire)) (l : Int) (hw : wfT (.sl SWire) a) (h0 : 0 <= l) (h1 : l <= 1048576) : ∃ r, c_laws_szWireS (C k) (a, l) = some r /\ r <= l /\ (0 <= r -> small 1048576 (.sl SWire) a) := by
  obtain ⟨k, rfl⟩ := pk (by omega)
  rw [u_laws_szWireS]
  have hm : a.length <= maxLen := hw.1
  have hsub : w64 (l - len a) = l - (a.length : Int) := sz_sub h0 h1 hm
  simp only [laws_szWireS, hsub]
  by_cases hneg : l - (a.length : Int) < 0
  · rw [ilss_neg hneg]
    exact ⟨-1, rfl, by omega, fun q => by omega⟩
  rw [ilss_pos hneg, cond_false]
  have s1 : ∀ n (hn : n < a.length) l', 0 <= l' -> l' <= 1048576 -> ∃ r, r <= l' /\ (0 <= r -> small 1048576 SWire a[n]) /\ ∀ ag, laws_szWireS_l0 (C k) (fun v => some v.1) (a, l', (n : Int), ()) ag = bif ilss r 0 then some (-1) else ag (a, r, ((n + 1 : Nat) : Int), ()) := by
    intro n hn l' g0 g1
    have e0 : inb (n : Int) (len a) = true := inb_nat n hn
    have e2 : ilss (n : Int) (len a) = true := ilss_nat hn
    have hwn := hw.2 _ (List.getElem_mem hn)
    obtain ⟨r, r1, r2, r3⟩ := Z_laws_szWire (k := k) (by omega) a[n] l' hwn g0 g1
    refine ⟨r, r2, r3, fun ag => ?_⟩
    simp only [laws_szWireS_l0, Int.toNat_natCast, e0, e2, cond_true, ck_true, getD_lt hn, w64_succ hn hm, r1, bnd_some]
  have s2 : ∀ l' ag, laws_szWireS_l0 (C k) (fun v => some v.1) (a, l', (a.length : Int), ()) ag = some l' := by
    intro l' ag
    have e2 : ilss (a.length : Int) (len a) = false := ilss_end _
    simp only [laws_szWireS_l0, e2, cond_false]
  obtain ⟨r, r1, r2, r3⟩ := loop_sz (body := laws_szWireS_l0 (C k) (fun v => some v.1)) a (fun n l => (a, l, (n : Int), ())) (small 1048576 SWire) s1 s2 (l - (a.length : Int)) (by omega) (by omega)
  exact ⟨r, r1, by omega, fun q => ⟨by omega, r3 q⟩⟩
theorem L_laws_toPeer {k : Nat} (hk : 4 <= k) (x : TPeer) (hs : small 1048576 SPeer x) : c_laws_toPeer (C k) x = some x := by
  obtain ⟨k, rfl⟩ := pk (by omega)
  rw [u_laws_toPeer]
  simp only [laws_toPeer, L_laws_toTrackS (k := k) (by omega) x.2.2.2.2.1 hs.2.2.2.2.1, L_laws_toWorld (k := k) (by omega) x.2.2.2.2.2.1 hs.2.2.2.2.2.1, L_laws_toWorld (k := k) (by omega) x.2.2.2.2.2.2.1 hs.2.2.2.2.2.2.1, L_laws_toIntSS (k := k) (by omega) x.2.2.2.2.2.2.2.1 hs.2.2.2.2.2.2.2.1, L_laws_toSaveS (k := k) (by omega) x.2.2.2.2.2.2.2.2.1 hs.2.2.2.2.2.2.2.2.1, L_laws_toIntS (k := k) (by omega) x.2.2.2.2.2.2.2.2.2.1 hs.2.2.2.2.2.2.2.2.2.1, L_laws_toFault (k := k) (by omega) x.2.2.2.2.2.2.2.2.2.2.1 hs.2.2.2.2.2.2.2.2.2.2.1, bnd_some]
theorem L_laws_toSpectator {k : Nat} (hk : 4 <= k) (x : TSpectator) (hs : small 1048576 SSpectator x) : c_laws_toSpectator (C k) x = some x := by
  obtain ⟨k, rfl⟩ := pk (by omega)
  rw [u_laws_toSpectator]
  simp only [laws_toSpectator, L_laws_toWorld (k := k) (by omega) x.1 hs.1, bnd_some]
theorem L_laws_toWireS {k : Nat} (hk : 4 <= k) (x : (List TWire)) (hs : small 1048576 (.sl SWire) x) : c_laws_toWireS (C k) x = some x := by
  obtain ⟨k, rfl⟩ := pk (by omega)
  rw [u_laws_toWireS]
  have hl : x.length <= 1048576 := hs.1
  have hm : x.length <= maxLen := Nat.le_trans hl (by decide)
  simp only [laws_toWireS]
  rw [ck_of (by simp only [mkb, len, Bool.and_eq_true, decide_eq_true_eq]; omega), show Int.toNat (len x) = x.length from rfl]
  refine loop_fill x dWire (fun n out => (x, (n : Int), out, ())) _ (fun n out hn ho ag => ?_) (fun ag => ?_)
  · have e0 : inb (n : Int) (len x) = true := inb_nat n hn
    have e1 : inb (n : Int) (len out) = true := inb_nat n (by omega)
    have e2 : ilss (n : Int) (len x) = true := ilss_nat hn
    simp only [laws_toWireS_l0, Int.toNat_natCast, e0, e1, e2, cond_true, ck_true, getD_lt hn, w64_succ hn hm, L_laws_toWire (k := k) (by omega) x[n] (hs.2 _ (List.getElem_mem hn)), bnd_some]
  · have e2 : ilss (x.length : Int) (len x) = false := ilss_end _
    simp only [laws_toWireS_l0, e2, cond_false]
theorem L_laws_eqPeerS {k : Nat} (hk : 5 <= k) (x : (List TPeer)) (hs : small 1048576 (.sl SPeer) x) : c_laws_eqPeerS (C k) (x, x) = some true := by
  obtain ⟨k, rfl⟩ := pk (by omega)
  rw [u_laws_eqPeerS]
  have hl : x.length <= 1048576 := hs.1
  have hm : x.length <= maxLen := Nat.le_trans hl (by decide)
  simp only [laws_eqPeerS, ineq_self, cond_false]
  refine (loop_all0 x (fun n => (x, x, (n : Int), ())) (fun _ => true) false (some true) (fun n hn ag => ?_) (fun ag => ?_)).trans (by rw [List.all_eq_true.2 (fun _ _ => rfl)]; rfl)
  · have e0 : inb (n : Int) (len x) = true := inb_nat n hn
    have e2 : ilss (n : Int) (len x) = true := ilss_nat hn
    simp only [laws_eqPeerS_l0, Int.toNat_natCast, e0, e2, cond_true, cond_false, ck_true, getD_lt hn, w64_succ hn hm, ineq_self, seq_self, Bool.not_true, L_laws_eqPeer (k := k) (by omega) x[n] (hs.2 _ (List.getElem_mem hn)), bnd_some]
  · have e2 : ilss (x.length : Int) (len x) = false := ilss_end _
    simp only [laws_eqPeerS_l0, e2, cond_false]
theorem L_laws_eqSpectatorS {k : Nat} (hk : 5 <= k) (x : (List TSpectator)) (hs : small 1048576 (.sl SSpectator) x) : c_laws_eqSpectatorS (C k) (x, x) = some true := by
  obtain ⟨k, rfl⟩ := pk (by omega)
  rw [u_laws_eqSpectatorS]
  have hl : x.length <= 1048576 := hs.1
  have hm : x.length <= maxLen := Nat.le_trans hl (by decide)
  simp only [laws_eqSpectatorS, ineq_self, cond_false]
  refine (loop_all0 x (fun n => (x, x, (n : Int), ())) (fun _ => true) false (some true) (fun n hn ag => ?_) (fun ag => ?_)).trans (by rw [List.all_eq_true.2 (fun _ _ => rfl)]; rfl)
  · have e0 : inb (n : Int) (len x) = true := inb_nat n hn
    have e2 : ilss (n : Int) (len x) = true := ilss_nat hn
    simp only [laws_eqSpectatorS_l0, Int.toNat_natCast, e0, e2, cond_true, cond_false, ck_true, getD_lt hn, w64_succ hn hm, ineq_self, seq_self, Bool.not_true, L_laws_eqSpectator (k := k) (by omega) x[n] (hs.2 _ (List.getElem_mem hn)), bnd_some]
  · have e2 : ilss (x.length : Int) (len x) = false := ilss_end _
    simp only [laws_eqSpectatorS_l0, e2, cond_false]
theorem L_laws_eqWireSS {k : Nat} (hk : 5 <= k) (x : (List (List TWire))) (hs : small 1048576 (.sl (.sl SWire)) x) : c_laws_eqWireSS (C k) (x, x) = some true := by
  obtain ⟨k, rfl⟩ := pk (by omega)
  rw [u_laws_eqWireSS]
  have hl : x.length <= 1048576 := hs.1
  have hm : x.length <= maxLen := Nat.le_trans hl (by decide)
  simp only [laws_eqWireSS, ineq_self, cond_false]
  refine (loop_all0 x (fun n => (x, x, (n : Int), ())) (fun _ => true) false (some true) (fun n hn ag => ?_) (fun ag => ?_)).trans (by rw [List.all_eq_true.2 (fun _ _ => rfl)]; rfl)
  · have e0 : inb (n : Int) (len x) = true := inb_nat n hn
    have e2 : ilss (n : Int) (len x) = true := ilss_nat hn
    simp only [laws_eqWireSS_l0, Int.toNat_natCast, e0, e2, cond_true, cond_false, ck_true, getD_lt hn, w64_succ hn hm, ineq_self, seq_self, Bool.not_true, L_laws_eqWireS (k := k) (by omega) x[n] (hs.2 _ (List.getElem_mem hn)), bnd_some]
  · have e2 : ilss (x.length : Int) (len x) = false := ilss_end _
    simp only [laws_eqWireSS_l0, e2, cond_false]
theorem Z_laws_szPeerS {k : Nat} (hk : 5 <= k) (a : (List TPeer)) (l : Int) (hw : wfT (.sl SPeer) a) (h0 : 0 <= l) (h1 : l <= 1048576) : ∃ r, c_laws_szPeerS (C k) (a, l) = some r /\ r <= l /\ (0 <= r -> small 1048576 (.sl SPeer) a) := by
  obtain ⟨k, rfl⟩ := pk (by omega)
  rw [u_laws_szPeerS]
  have hm : a.length <= maxLen := hw.1
  have hsub : w64 (l - len a) = l - (a.length : Int) := sz_sub h0 h1 hm
  simp only [laws_szPeerS, hsub]
  by_cases hneg : l - (a.length : Int) < 0
  · rw [ilss_neg hneg]
    exact ⟨-1, rfl, by omega, fun q => by omega⟩
  rw [ilss_pos hneg, cond_false]
  have s1 : ∀ n (hn : n < a.length) l', 0 <= l' -> l' <= 1048576 -> ∃ r, r <= l' /\ (0 <= r -> small 1048576 SPeer a[n]) /\ ∀ ag, laws_szPeerS_l0 (C k) (fun v => some v.1) (a, l', (n : Int), ()) ag = bif ilss r 0 then some (-1) else ag (a, r, ((n + 1 : Nat) : Int), ()) := by
    intro n hn l' g0 g1
    have e0 : inb (n : Int) (len a) = true := inb_nat n hn
    have e2 : ilss (n : Int) (len a) = true := ilss_nat hn
    have hwn := hw.2 _ (List.getElem_mem hn)
    obtain ⟨r, r1, r2, r3⟩ := Z_laws_szPeer (k := k) (by omega) a[n] l' hwn g0 g1
    refine ⟨r, r2, r3, fun ag => ?_⟩
    simp only [laws_szPeerS_l0, Int.toNat_natCast, e0, e2, cond_true, ck_true, getD_lt hn, w64_succ hn hm, r1, bnd_some]
  have s2 : ∀ l' ag, laws_szPeerS_l0 (C k) (fun v => some v.1) (a, l', (a.length : Int), ()) ag = some l' := by
    intro l' ag
    have e2 : ilss (a.length : Int) (len a) = false := ilss_end _
    simp only [laws_szPeerS_l0, e2, cond_false]
  obtain ⟨r, r1, r2, r3⟩ := loop_sz (body := laws_szPeerS_l0 (C k) (fun v => some v.1)) a (fun n l => (a, l, (n : Int), ())) (small 1048576 SPeer) s1 s2 (l - (a.length : Int)) (by omega) (by omega)
  exact ⟨r, r1, by omega, fun q => ⟨by omega, r3 q⟩⟩
theorem Z_laws_szSpectatorS {k : Nat} (hk : 5 <= k) (a : (List TSpectator)) (l : Int) (hw : wfT (.sl SSpectator) a) (h0 : 0 <= l) (h1 : l <= 1048576) : ∃ r, c_laws_szSpectatorS (C k) (a, l) = some r /\ r <= l /\ (0 <= r -> small 1048576 (.sl SSpectator) a) := by
  obtain ⟨k, rfl⟩ := pk (by omega)
  rw [u_laws_szSpectatorS]
  have hm : a.length <= maxLen := hw.1
  have hsub : w64 (l - len a) = l - (a.length : Int) := sz_sub h0 h1 hm
  simp only [laws_szSpectatorS, hsub]
  by_cases hneg : l - (a.length : Int) < 0
  · rw [ilss_neg hneg]
    exact ⟨-1, rfl, by omega, fun q => by omega⟩
  rw [ilss_pos hneg, cond_false]
  have s1 : ∀ n (hn : n < a.length) l', 0 <= l' -> l' <= 1048576 -> ∃ r, r <= l' /\ (0 <= r -> small 1048576 SSpectator a[n]) /\ ∀ ag, laws_szSpectatorS_l0 (C k) (fun v => some v.1) (a, l', (n : Int), ()) ag = bif ilss r 0 then some (-1) else ag (a, r, ((n + 1 : Nat) : Int), ()) := by
    intro n hn l' g0 g1
    have e0 : inb (n : Int) (len a) = true := inb_nat n hn
    have e2 : ilss (n : Int) (len a) = true := ilss_nat hn
    have hwn := hw.2 _ (List.getElem_mem hn)
    obtain ⟨r, r1, r2, r3⟩ := Z_laws_szSpectator (k := k) (by omega) a[n] l' hwn g0 g1
    refine ⟨r, r2, r3, fun ag => ?_⟩
    simp only [laws_szSpectatorS_l0, Int.toNat_natCast, e0, e2, cond_true, ck_true, getD_lt hn, w64_succ hn hm, r1, bnd_some]
  have s2 : ∀ l' ag, laws_szSpectatorS_l0 (C k) (fun v => some v.1) (a, l', (a.length : Int), ()) ag = some l' := by
    intro l' ag
    have e2 : ilss (a.length : Int) (len a) = false := ilss_end _
    simp only [laws_szSpectatorS_l0, e2, cond_false]
  obtain ⟨r, r1, r2, r3⟩ := loop_sz (body := laws_szSpectatorS_l0 (C k) (fun v => some v.1)) a (fun n l => (a, l, (n : Int), ())) (small 1048576 SSpectator) s1 s2 (l - (a.length : Int)) (by omega) (by omega)
  exact ⟨r, r1, by omega, fun q => ⟨by omega, r3 q⟩⟩
theorem Z_laws_szWireSS {k : Nat} (hk : 5 <= k) (a : (List (List TWire))) (l : Int) (hw : wfT (.sl (.sl SWire)) a) (h0 : 0 <= l) (h1 : l <= 1048576) : ∃ r, c_laws_szWireSS (C k) (a, l) = some r /\ r <= l /\ (0 <= r -> small 1048576 (.sl (.sl SWire)) a) := by
  obtain ⟨k, rfl⟩ := pk (by omega)
  rw [u_laws_szWireSS]
  have hm : a.length <= maxLen := hw.1
  have hsub : w64 (l - len a) = l - (a.length : Int) := sz_sub h0 h1 hm
  simp only [laws_szWireSS, hsub]
  by_cases hneg : l - (a.length : Int) < 0
  · rw [ilss_neg hneg]
    exact ⟨-1, rfl, by omega, fun q => by omega⟩
  rw [ilss_pos hneg, cond_false]
  have s1 : ∀ n (hn : n < a.length) l', 0 <= l' -> l' <= 1048576 -> ∃ r, r <= l' /\ (0 <= r -> small 1048576 (.sl SWire) a[n]) /\ ∀ ag, laws_szWireSS_l0 (C k) (fun v => some v.1) (a, l', (n : Int), ()) ag = bif ilss r 0 then some (-1) else ag (a, r, ((n + 1 : Nat) : Int), ()) := by
    intro n hn l' g0 g1
    have e0 : inb (n : Int) (len a) = true := inb_nat n hn
    have e2 : ilss (n : Int) (len a) = true := ilss_nat hn
    have hwn := hw.2 _ (List.getElem_mem hn)
    obtain ⟨r, r1, r2, r3⟩ := Z_laws_szWireS (k := k) (by omega) a[n] l' hwn g0 g1
    refine ⟨r, r2, r3, fun ag => ?_⟩
    simp only [laws_szWireSS_l0, Int.toNat_natCast, e0, e2, cond_true, ck_true, getD_lt hn, w64_succ hn hm, r1, bnd_some]
  have s2 : ∀ l' ag, laws_szWireSS_l0 (C k) (fun v => some v.1) (a, l', (a.length : Int), ()) ag = some l' := by
    intro l' ag
    have e2 : ilss (a.length : Int) (len a) = false := ilss_end _
    simp only [laws_szWireSS_l0, e2, cond_false]
  obtain ⟨r, r1, r2, r3⟩ := loop_sz (body := laws_szWireSS_l0 (C k) (fun v => some v.1)) a (fun n l => (a, l, (n : Int), ())) (small 1048576 (.sl SWire)) s1 s2 (l - (a.length : Int)) (by omega) (by omega)
  exact ⟨r, r1, by omega, fun q => ⟨by omega, r3 q⟩⟩
theorem L_laws_toPeerS {k : Nat} (hk : 5 <= k) (x : (List TPeer)) (hs : small 1048576 (.sl SPeer) x) : c_laws_toPeerS (C k) x = some x := by
  obtain ⟨k, rfl⟩ := pk (by omega)
  rw [u_laws_toPeerS]
  have hl : x.length <= 1048576 := hs.1
  have hm : x.length <= maxLen := Nat.le_trans hl (by decide)
  simp only [laws_toPeerS]
  rw [ck_of (by simp only [mkb, len, Bool.and_eq_true, decide_eq_true_eq]; omega), show Int.toNat (len x) = x.length from rfl]
  refine loop_fill x dPeer (fun n out => (x, (n : Int), out, ())) _ (fun n out hn ho ag => ?_) (fun ag => ?_)
  · have e0 : inb (n : Int) (len x) = true := inb_nat n hn
    have e1 : inb (n : Int) (len out) = true := inb_nat n (by omega)
    have e2 : ilss (n : Int) (len x) = true := ilss_nat hn
    simp only [laws_toPeerS_l0, Int.toNat_natCast, e0, e1, e2, cond_true, ck_true, getD_lt hn, w64_succ hn hm, L_laws_toPeer (k := k) (by omega) x[n] (hs.2 _ (List.getElem_mem hn)), bnd_some]
  · have e2 : ilss (x.length : Int) (len x) = false := ilss_end _
    simp only [laws_toPeerS_l0, e2, cond_false]
theorem L_laws_toSpectatorS {k : Nat} (hk : 5 <= k) (x : (List TSpectator)) (hs : small 1048576 (.sl SSpectator) x) : c_laws_toSpectatorS (C k) x = some x := by
  obtain ⟨k, rfl⟩ := pk (by omega)
  rw [u_laws_toSpectatorS]
  have hl : x.length <= 1048576 := hs.1
  have hm : x.length <= maxLen := Nat.le_trans hl (by decide)
  simp only [laws_toSpectatorS]
  rw [ck_of (by simp only [mkb, len, Bool.and_eq_true, decide_eq_true_eq]; omega), show Int.toNat (len x) = x.length from rfl]
  refine loop_fill x dSpectator (fun n out => (x, (n : Int), out, ())) _ (fun n out hn ho ag => ?_) (fun ag => ?_)
  · have e0 : inb (n : Int) (len x) = true := inb_nat n hn
    have e1 : inb (n : Int) (len out) = true := inb_nat n (by omega)
    have e2 : ilss (n : Int) (len x) = true := ilss_nat hn
    simp only [laws_toSpectatorS_l0, Int.toNat_natCast, e0, e1, e2, cond_true, ck_true, getD_lt hn, w64_succ hn hm, L_laws_toSpectator (k := k) (by omega) x[n] (hs.2 _ (List.getElem_mem hn)), bnd_some]
  · have e2 : ilss (x.length : Int) (len x) = false := ilss_end _
    simp only [laws_toSpectatorS_l0, e2, cond_false]
theorem L_laws_toWireSS {k : Nat} (hk : 5 <= k) (x : (List (List TWire))) (hs : small 1048576 (.sl (.sl SWire)) x) : c_laws_toWireSS (C k) x = some x := by
  obtain ⟨k, rfl⟩ := pk (by omega)
  rw [u_laws_toWireSS]
  have hl : x.length <= 1048576 := hs.1
  have hm : x.length <= maxLen := Nat.le_trans hl (by decide)
  simp only [laws_toWireSS]
  rw [ck_of (by simp only [mkb, len, Bool.and_eq_true, decide_eq_true_eq]; omega), show Int.toNat (len x) = x.length from rfl]
  refine loop_fill x [] (fun n out => (x, (n : Int), out, ())) _ (fun n out hn ho ag => ?_) (fun ag => ?_)
  · have e0 : inb (n : Int) (len x) = true := inb_nat n hn
    have e1 : inb (n : Int) (len out) = true := inb_nat n (by omega)
    have e2 : ilss (n : Int) (len x) = true := ilss_nat hn
    simp only [laws_toWireSS_l0, Int.toNat_natCast, e0, e1, e2, cond_true, ck_true, getD_lt hn, w64_succ hn hm, L_laws_toWireS (k := k) (by omega) x[n] (hs.2 _ (List.getElem_mem hn)), bnd_some]
  · have e2 : ilss (x.length : Int) (len x) = false := ilss_end _
    simp only [laws_toWireSS_l0, e2, cond_false]
theorem L_laws_eqMatch {k : Nat} (hk : 6 <= k) (x : TMatch) (hs : small 1048576 SMatch x) : c_laws_eqMatch (C k) (x, x) = some true := by
  obtain ⟨k, rfl⟩ := pk (by omega)
  rw [u_laws_eqMatch]
  simp only [laws_eqMatch, L_laws_eqLevel (k := k) (by omega) x.1 hs.1, L_laws_eqIntSS (k := k) (by omega) x.2.2.2.1 hs.2.2.2.1, L_laws_eqPeerS (k := k) (by omega) x.2.2.2.2.1 hs.2.2.2.2.1, L_laws_eqWireSS (k := k) (by omega) x.2.2.2.2.2.1 hs.2.2.2.2.2.1, L_laws_eqPaceSS (k := k) (by omega) x.2.2.2.2.2.2.1 hs.2.2.2.2.2.2.1, L_laws_eqIntSS (k := k) (by omega) x.2.2.2.2.2.2.2.1 hs.2.2.2.2.2.2.2.1, L_laws_eqSpectatorS (k := k) (by omega) x.2.2.2.2.2.2.2.2.2.1 hs.2.2.2.2.2.2.2.2.2.1, L_laws_eqWireS (k := k) (by omega) x.2.2.2.2.2.2.2.2.2.2.1 hs.2.2.2.2.2.2.2.2.2.2.1, L_laws_eqAlarmS (k := k) (by omega) x.2.2.2.2.2.2.2.2.2.2.2.1 hs.2.2.2.2.2.2.2.2.2.2.2.1, bnd_some, ineq_self, seq_self, cond_false, Bool.not_true, Bool.not_false]
theorem Z_laws_szMatch {k : Nat} (hk : 6 <= k) (a : TMatch) (l : Int) (hw : wfT SMatch a) (h0 : 0 <= l) (h1 : l <= 1048576) : ∃ r, c_laws_szMatch (C k) (a, l) = some r /\ r <= l /\ (0 <= r -> small 1048576 SMatch a) := by
  obtain ⟨k, rfl⟩ := pk (by omega)
  rw [u_laws_szMatch]
  simp only [laws_szMatch]
  obtain ⟨r0, e0, b0, s0⟩ := Z_laws_szLevel (k := k) (by omega) a.1 l hw.1 (by omega) (by omega)
  rw [e0, bnd_some]
  by_cases n0 : r0 < 0
  · rw [ilss_neg n0]
    exact ⟨-1, rfl, by omega, fun q => by omega⟩
  rw [ilss_pos n0, cond_false]
  obtain ⟨r1, e1, b1, s1⟩ := Z_laws_szIntSS (k := k) (by omega) a.2.2.2.1 r0 hw.2.2.2.1 (by omega) (by omega)
  rw [e1, bnd_some]
  by_cases n1 : r1 < 0
  · rw [ilss_neg n1]
    exact ⟨-1, rfl, by omega, fun q => by omega⟩
  rw [ilss_pos n1, cond_false]
  obtain ⟨r2, e2, b2, s2⟩ := Z_laws_szPeerS (k := k) (by omega) a.2.2.2.2.1 r1 hw.2.2.2.2.1 (by omega) (by omega)
  rw [e2, bnd_some]
  by_cases n2 : r2 < 0
  · rw [ilss_neg n2]
    exact ⟨-1, rfl, by omega, fun q => by omega⟩
  rw [ilss_pos n2, cond_false]
  obtain ⟨r3, e3, b3, s3⟩ := Z_laws_szWireSS (k := k) (by omega) a.2.2.2.2.2.1 r2 hw.2.2.2.2.2.1 (by omega) (by omega)
  rw [e3, bnd_some]
  by_cases n3 : r3 < 0
  · rw [ilss_neg n3]
    exact ⟨-1, rfl, by omega, fun q => by omega⟩
  rw [ilss_pos n3, cond_false]
  obtain ⟨r4, e4, b4, s4⟩ := Z_laws_szPaceSS (k := k) (by omega) a.2.2.2.2.2.2.1 r3 hw.2.2.2.2.2.2.1 (by omega) (by omega)
  rw [e4, bnd_some]
  by_cases n4 : r4 < 0
  · rw [ilss_neg n4]
    exact ⟨-1, rfl, by omega, fun q => by omega⟩
  rw [ilss_pos n4, cond_false]
  obtain ⟨r5, e5, b5, s5⟩ := Z_laws_szIntSS (k := k) (by omega) a.2.2.2.2.2.2.2.1 r4 hw.2.2.2.2.2.2.2.1 (by omega) (by omega)
  rw [e5, bnd_some]
  by_cases n5 : r5 < 0
  · rw [ilss_neg n5]
    exact ⟨-1, rfl, by omega, fun q => by omega⟩
  rw [ilss_pos n5, cond_false]
  obtain ⟨r6, e6, b6, s6⟩ := Z_laws_szSpectatorS (k := k) (by omega) a.2.2.2.2.2.2.2.2.2.1 r5 hw.2.2.2.2.2.2.2.2.2.1 (by omega) (by omega)
  rw [e6, bnd_some]
  by_cases n6 : r6 < 0
  · rw [ilss_neg n6]
    exact ⟨-1, rfl, by omega, fun q => by omega⟩
  rw [ilss_pos n6, cond_false]
  obtain ⟨r7, e7, b7, s7⟩ := Z_laws_szWireS (k := k) (by omega) a.2.2.2.2.2.2.2.2.2.2.1 r6 hw.2.2.2.2.2.2.2.2.2.2.1 (by omega) (by omega)
  rw [e7, bnd_some]
  by_cases n7 : r7 < 0
  · rw [ilss_neg n7]
    exact ⟨-1, rfl, by omega, fun q => by omega⟩
  rw [ilss_pos n7, cond_false]
  obtain ⟨r8, e8, b8, s8⟩ := Z_laws_szAlarmS (k := k) (by omega) a.2.2.2.2.2.2.2.2.2.2.2.1 r7 hw.2.2.2.2.2.2.2.2.2.2.2.1 (by omega) (by omega)
  rw [e8, bnd_some]
  by_cases n8 : r8 < 0
  · rw [ilss_neg n8]
    exact ⟨-1, rfl, by omega, fun q => by omega⟩
  rw [ilss_pos n8, cond_false]
  exact ⟨_, rfl, by omega, fun _ => ⟨s0 (by omega), ⟨trivial, ⟨trivial, ⟨s1 (by omega), ⟨s2 (by omega), ⟨s3 (by omega), ⟨s4 (by omega), ⟨s5 (by omega), ⟨trivial, ⟨s6 (by omega), ⟨s7 (by omega), ⟨s8 (by omega), trivial⟩⟩⟩⟩⟩⟩⟩⟩⟩⟩⟩⟩⟩
theorem L_laws_toMatch {k : Nat} (hk : 6 <= k) (x : TMatch) (hs : small 1048576 SMatch x) : c_laws_toMatch (C k) x = some x := by
  obtain ⟨k, rfl⟩ := pk (by omega)
  rw [u_laws_toMatch]
  simp only [laws_toMatch, L_laws_toLevel (k := k) (by omega) x.1 hs.1, L_laws_toIntSS (k := k) (by omega) x.2.2.2.1 hs.2.2.2.1, L_laws_toPeerS (k := k) (by omega) x.2.2.2.2.1 hs.2.2.2.2.1, L_laws_toWireSS (k := k) (by omega) x.2.2.2.2.2.1 hs.2.2.2.2.2.1, L_laws_toPaceSS (k := k) (by omega) x.2.2.2.2.2.2.1 hs.2.2.2.2.2.2.1, L_laws_toIntSS (k := k) (by omega) x.2.2.2.2.2.2.2.1 hs.2.2.2.2.2.2.2.1, L_laws_toSpectatorS (k := k) (by omega) x.2.2.2.2.2.2.2.2.2.1 hs.2.2.2.2.2.2.2.2.2.1, L_laws_toWireS (k := k) (by omega) x.2.2.2.2.2.2.2.2.2.2.1 hs.2.2.2.2.2.2.2.2.2.2.1, L_laws_toAlarmS (k := k) (by omega) x.2.2.2.2.2.2.2.2.2.2.2.1 hs.2.2.2.2.2.2.2.2.2.2.2.1, bnd_some]
end Go.Proofs.YtaflceohlijekaaGreat.Ev
namespace Go.Proofs.YtaflceohlijekaaGreat.Ev
def mIn (x lo hi : Int) : Bool := decide (lo <= x) && decide (x <= hi)
theorem mIn_iff {x lo hi : Int} : mIn x lo hi = true ↔ lo <= x /\ x <= hi := by simp [mIn]
theorem mIn_eq (x lo hi : Int) : (bif igeq x lo then (some (ileq x hi)) else some false) = some (mIn x lo hi) := by
  simp only [mIn, igeq, ileq, ge_iff_le]
  cases decide (lo <= x) <;> rfl
theorem some_bif {α : Type} (c : Bool) (a b : α) : (bif c then some a else some b) = some (bif c then a else b) := by cases c <;> rfl
theorem L_spec_l01In {k : Nat} (hk : 1 <= k) (x lo hi : Int) : c_spec_l01In (C k) (x, lo, hi) = some (mIn x lo hi) := by
  obtain ⟨k, rfl⟩ := pk (by omega)
  rw [u_spec_l01In]
  simp only [spec_l01In, bnd_same]
  exact mIn_eq x lo hi
theorem L_impl_between {k : Nat} (hk : 1 <= k) (x lo hi : Int) : c_impl_between (C k) (x, lo, hi) = some (mIn x lo hi) := by
  obtain ⟨k, rfl⟩ := pk (by omega)
  rw [u_impl_between]
  simp only [impl_between, bnd_same]
  exact mIn_eq x lo hi
def mSize (k : Int) : Int := bif ieql k 0 then 12 else bif ieql k 1 then 4 else bif ieql k 2 then 8 else 0
theorem L_spec_SizeOf {k : Nat} (hk : 1 <= k) (x : Int) : c_spec_SizeOf (C k) x = some (mSize x) := by
  obtain ⟨k, rfl⟩ := pk (by omega)
  rw [u_spec_SizeOf]
  simp only [spec_SizeOf, mSize, some_bif]
theorem L_impl_SizeOf {k : Nat} (hk : 1 <= k) (x : Int) : c_impl_SizeOf (C k) x = some (mSize x) := by
  obtain ⟨k, rfl⟩ := pk (by omega)
  rw [u_impl_SizeOf]
  simp only [impl_SizeOf, mSize, some_bif]
def mInp (n : Int) : Bool := mIn n 0 15
def mInputs (xs : List Int) : Bool := xs.all mInp
theorem L_impl_inputsOk {k : Nat} (hk : 2 <= k) (xs : List Int) (hl : xs.length <= 1048576) : c_impl_inputsOk (C k) xs = some (mInputs xs) := by
  obtain ⟨k, rfl⟩ := pk (by omega)
  rw [u_impl_inputsOk]
  have hz : loopW (impl_inputsOk_l0 (C k) (fun v3 => (some true))) (xs, len xs, 0, ()) = bif List.all xs mInp then (some true) else (some false) := by
    have hm : List.length xs <= maxLen := Nat.le_trans hl (by decide)
    refine loop_all0 xs (fun n => (xs, len xs, (n : Int), ())) mInp false (some true) (fun n hn ag => ?_) (fun ag => ?_)
    · have e0 : inb (n : Int) (len xs) = true := inb_nat n hn
      have e2 : ilss (n : Int) (len xs) = true := ilss_nat hn
      simp only [impl_inputsOk_l0, Int.toNat_natCast, e0, e2, cond_true, ck_true, getD_lt hn, w64_succ hn hm, bnd_some, L_impl_between (k := k) (by omega)]
      show (bif !mIn xs[n] 0 15 then _ else _) = bif mIn xs[n] 0 15 then _ else _
      cases mIn xs[n] 0 15 <;> rfl
    · have e2 : ilss (List.length xs : Int) (len xs) = false := ilss_end _
      simp only [impl_inputsOk_l0, e2, cond_false]
  simp only [impl_inputsOk, hz, some_bif]
  unfold mInputs
  cases xs.all _ <;> rfl
theorem L_spec_l03Inputs {k : Nat} (hk : 2 <= k) (xs : List Int) (hl : xs.length <= 1048576) : c_spec_l03Inputs (C k) xs = some (mInputs xs) := by
  obtain ⟨k, rfl⟩ := pk (by omega)
  rw [u_spec_l03Inputs]
  have hz : loopW (spec_l03Inputs_l0 (C k) (fun v3 => (some true))) (xs, 0, ()) = bif List.all xs mInp then (some true) else (some false) := by
    have hm : List.length xs <= maxLen := Nat.le_trans hl (by decide)
    refine loop_all0 xs (fun n => (xs, (n : Int), ())) mInp false (some true) (fun n hn ag => ?_) (fun ag => ?_)
    · have e0 : inb (n : Int) (len xs) = true := inb_nat n hn
      have e2 : ilss (n : Int) (len xs) = true := ilss_nat hn
      simp only [spec_l03Inputs_l0, Int.toNat_natCast, e0, e2, cond_true, ck_true, getD_lt hn, w64_succ hn hm, bnd_some, L_spec_l01In (k := k) (by omega)]
      show (bif !mIn xs[n] 0 15 then _ else _) = bif mIn xs[n] 0 15 then _ else _
      cases mIn xs[n] 0 15 <;> rfl
    · have e2 : ilss (List.length xs : Int) (len xs) = false := ilss_end _
      simp only [spec_l03Inputs_l0, e2, cond_false]
  simp only [spec_l03Inputs, hz, some_bif]
  unfold mInputs
  cases xs.all _ <;> rfl
def mTrack (xs : List Int) : Bool := ileq (len xs) 400 && mInputs xs
theorem L_spec_TrackOk {k : Nat} (hk : 3 <= k) (xs : List Int) (hl : xs.length <= 1048576) : c_spec_TrackOk (C k) xs = some (mTrack xs) := by
  obtain ⟨k, rfl⟩ := pk (by omega)
  rw [u_spec_TrackOk]
  simp only [spec_TrackOk, L_spec_l03Inputs (k := k) (by omega) xs hl, bnd_some, bnd_same, mTrack, some_bif]
  cases ileq (len xs) 400 <;> rfl
theorem L_impl_TrackOk {k : Nat} (hk : 3 <= k) (xs : List Int) (hl : xs.length <= 1048576) : c_impl_TrackOk (C k) xs = some (mTrack xs) := by
  obtain ⟨k, rfl⟩ := pk (by omega)
  rw [u_impl_TrackOk]
  simp only [impl_TrackOk, L_impl_inputsOk (k := k) (by omega) xs hl, bnd_some, bnd_same, mTrack, some_bif]
  cases ileq (len xs) 400 <;> rfl
def mTracks (xs : List (List Int)) : Bool := mIn (len xs) 1 4 && xs.all mTrack
theorem out_in (x lo hi : Int) : (bif ilss x lo then true else igtr x hi) = !mIn x lo hi := by
  simp only [ilss, igtr, mIn]
  by_cases h1 : x < lo
  · have : ¬ lo <= x := by omega
    simp [h1, this]
  · have : lo <= x := by omega
    by_cases h2 : x <= hi
    · have : ¬ x > hi := by omega
      simp [h1, *]
    · have : x > hi := by omega
      simp [h1, *]
theorem L_spec_TracksOk {k : Nat} (hk : 4 <= k) (xs : List (List Int)) (hl : xs.length <= 1048576) (hs : ∀ x ∈ xs, x.length <= 1048576) : c_spec_TracksOk (C k) xs = some (mTracks xs) := by
  obtain ⟨k, rfl⟩ := pk (by omega)
  rw [u_spec_TracksOk]
  have hz : loopW (spec_TracksOk_l0 (C k) (fun v3 => (bnd (c_spec_l01In (C k) ((len v3.1), 1, 4)) fun r4 => (some r4)))) (xs, 0, ()) = bif List.all xs mTrack then (some (mIn (len xs) 1 4)) else (some false) := by
    have hm : List.length xs <= maxLen := Nat.le_trans hl (by decide)
    refine loop_all0 xs (fun n => (xs, (n : Int), ())) mTrack false (some (mIn (len xs) 1 4)) (fun n hn ag => ?_) (fun ag => ?_)
    · have e0 : inb (n : Int) (len xs) = true := inb_nat n hn
      have e2 : ilss (n : Int) (len xs) = true := ilss_nat hn
      simp only [spec_TracksOk_l0, Int.toNat_natCast, e0, e2, cond_true, ck_true, getD_lt hn, w64_succ hn hm, bnd_some, L_spec_TrackOk (k := k) (by omega) _ (hs _ (List.getElem_mem hn))]
      cases mTrack (xs)[n] <;> rfl
    · have e2 : ilss (List.length xs : Int) (len xs) = false := ilss_end _
      simp only [spec_TracksOk_l0, e2, cond_false, L_spec_l01In (k := k) (by omega), bnd_some]
  simp only [spec_TracksOk, hz, some_bif]
  unfold mTracks
  cases xs.all mTrack <;> cases mIn (len xs) 1 4 <;> rfl
theorem L_impl_TracksOk {k : Nat} (hk : 4 <= k) (xs : List (List Int)) (hl : xs.length <= 1048576) (hs : ∀ x ∈ xs, x.length <= 1048576) : c_impl_TracksOk (C k) xs = some (mTracks xs) := by
  obtain ⟨k, rfl⟩ := pk (by omega)
  rw [u_impl_TracksOk]
  have hz : loopW (impl_TracksOk_l0 (C k) (fun v4 => (some true))) (xs, len xs, 0, ()) = bif List.all xs mTrack then (some true) else (some false) := by
    have hm : List.length xs <= maxLen := Nat.le_trans hl (by decide)
    refine loop_all0 xs (fun n => (xs, len xs, (n : Int), ())) mTrack false (some true) (fun n hn ag => ?_) (fun ag => ?_)
    · have e0 : inb (n : Int) (len xs) = true := inb_nat n hn
      have e2 : ilss (n : Int) (len xs) = true := ilss_nat hn
      simp only [impl_TracksOk_l0, Int.toNat_natCast, e0, e2, cond_true, ck_true, getD_lt hn, w64_succ hn hm, bnd_some, L_impl_TrackOk (k := k) (by omega) _ (hs _ (List.getElem_mem hn))]
      cases mTrack (xs)[n] <;> rfl
    · have e2 : ilss (List.length xs : Int) (len xs) = false := ilss_end _
      simp only [impl_TracksOk_l0, e2, cond_false]
  simp only [impl_TracksOk, hz, some_bif, bnd_some, out_in]
  unfold mTracks
  cases xs.all mTrack <;> cases mIn (len xs) 1 4 <;> rfl
def mKnown (xs : List (List Int)) : Int := bif mTracks xs then (xs.drop 1).foldl (fun m t => imin m (len t)) (len (List.getD xs 0 [])) else 0
theorem imin_self (a : Int) : imin a a = a := by simp [imin]
theorem mTracks_pos {xs : List (List Int)} (h : mTracks xs = true) : 1 <= xs.length /\ xs.length <= 4 := by
  unfold mTracks at h
  rw [Bool.and_eq_true, mIn_iff] at h
  simp only [len] at h
  omega
theorem L_spec_KnownTicks {k : Nat} (hk : 5 <= k) (xs : List (List Int)) (hl : xs.length <= 1048576) (hs : ∀ x ∈ xs, x.length <= 1048576) : c_spec_KnownTicks (C k) xs = some (mKnown xs) := by
  obtain ⟨k, rfl⟩ := pk (by omega)
  rw [u_spec_KnownTicks]
  simp only [spec_KnownTicks, L_spec_TracksOk (k := k) (by omega) xs hl hs, bnd_some, mKnown]
  cases ht : mTracks xs with
  | false => rfl
  | true =>
    have hp := mTracks_pos ht
    have hm : xs.length <= maxLen := Nat.le_trans hl (by decide)
    have e0 : inb 0 (len xs) = true := inb_nat 0 (by omega)
    simp only [Bool.not_true, cond_false, cond_true, e0, ck_true]
    refine (loop_fold xs (fun n s => (xs, s, (n : Int), ())) (fun m t => imin m (len t)) (fun s => some s) (fun n hn s ag => ?_) (fun s ag => ?_) 1 (by omega) (len (List.getD xs 0 []))).trans rfl
    · have e0 : inb (n : Int) (len xs) = true := inb_nat n hn
      have e2 : ilss (n : Int) (len xs) = true := ilss_nat hn
      simp only [spec_KnownTicks_l0, Int.toNat_natCast, e0, e2, cond_true, ck_true, getD_lt hn, w64_succ hn hm]
    · have e2 : ilss (xs.length : Int) (len xs) = false := ilss_end _
      simp only [spec_KnownTicks_l0, e2, cond_false]
theorem L_impl_KnownTicks {k : Nat} (hk : 5 <= k) (xs : List (List Int)) (hl : xs.length <= 1048576) (hs : ∀ x ∈ xs, x.length <= 1048576) : c_impl_KnownTicks (C k) xs = some (mKnown xs) := by
  obtain ⟨k, rfl⟩ := pk (by omega)
  rw [u_impl_KnownTicks]
  simp only [impl_KnownTicks, L_impl_TracksOk (k := k) (by omega) xs hl hs, bnd_some, mKnown]
  cases ht : mTracks xs with
  | false => rfl
  | true =>
    have hp := mTracks_pos ht
    have hm : xs.length <= maxLen := Nat.le_trans hl (by decide)
    have e0 : inb 0 (len xs) = true := inb_nat 0 (by omega)
    simp only [Bool.not_true, cond_false, cond_true, e0, ck_true]
    refine (loop_fold xs (fun n s => (s, xs, len xs, (n : Int), ())) (fun m t => imin m (len t)) (fun s => some s) (fun n hn s ag => ?_) (fun s ag => ?_) 0 (by omega) (len (List.getD xs 0 []))).trans ?_
    · have e0 : inb (n : Int) (len xs) = true := inb_nat n hn
      have e2 : ilss (n : Int) (len xs) = true := ilss_nat hn
      simp only [impl_KnownTicks_l0, Int.toNat_natCast, e0, e2, cond_true, ck_true, getD_lt hn, w64_succ hn hm]
    · have e2 : ilss (xs.length : Int) (len xs) = false := ilss_end _
      simp only [impl_KnownTicks_l0, e2, cond_false]
    · have h0 : 0 < xs.length := by omega
      rw [List.drop_eq_getElem_cons h0, List.foldl_cons, getD_lt h0, imin_self]
def mFault (f : TFault) (p : Int) : Bool := mIn f.1 0 400 && (mIn f.2.1 0 (p - 1) && mIn f.2.2 0 9)
theorem L_spec_FaultOk {k : Nat} (hk : 2 <= k) (f : TFault) (p : Int) (h0 : 0 <= p) (h1 : p <= 1048576) : c_spec_FaultOk (C k) (f, p) = some (mFault f p) := by
  obtain ⟨k, rfl⟩ := pk (by omega)
  rw [u_spec_FaultOk]
  simp only [spec_FaultOk, L_spec_l01In (k := k) (by omega), bnd_some, bnd_same, some_bif, mFault, w64_id (x := p - 1) (by omega) (by omega)]
  by_cases hp : p > 0
  · have : igtr p 0 = true := by simpa [igtr] using hp
    rw [this]
    cases mIn f.1 0 400 <;> cases mIn f.2.1 0 (p - 1) <;> rfl
  · have e1 : igtr p 0 = false := by simp only [igtr, decide_eq_false_iff_not]; omega
    have e2 : mIn f.2.1 0 (p - 1) = false := by
      cases h : mIn f.2.1 0 (p - 1) with
      | false => rfl
      | true => rw [mIn_iff] at h; omega
    rw [e1, e2]
    cases mIn f.1 0 400 <;> rfl
theorem L_impl_FaultOk {k : Nat} (hk : 2 <= k) (f : TFault) (p : Int) : c_impl_FaultOk (C k) (f, p) = some (mFault f p) := by
  obtain ⟨k, rfl⟩ := pk (by omega)
  rw [u_impl_FaultOk]
  simp only [impl_FaultOk, L_impl_between (k := k) (by omega), bnd_some, bnd_same, some_bif, mFault]
  have e : mIn f.2.1 0 (p - 1) = (igeq f.2.1 0 && ilss f.2.1 p) := by
    simp only [mIn, igeq, ilss]
    congr 1
    simp only [decide_eq_decide]
    omega
  rw [e]
  cases mIn f.1 0 400 <;> cases igeq f.2.1 0 <;> cases ilss f.2.1 p <;> rfl
def mPace (x : TPace) : Bool := mIn x.1 0 1000001 && (mIn x.2.1 0 1000001 && (mIn x.2.2.1 0 1000001 && (mIn x.2.2.2.1 0 1000001 && mIn x.2.2.2.2 0 1000001)))
theorem L_spec_PaceOk {k : Nat} (hk : 2 <= k) (x : TPace) : c_spec_PaceOk (C k) x = some (mPace x) := by
  obtain ⟨k, rfl⟩ := pk (by omega)
  rw [u_spec_PaceOk]
  simp only [spec_PaceOk, L_spec_l01In (k := k) (by omega), bnd_some, bnd_same, some_bif, mPace]
  cases mIn x.1 0 1000001 <;> cases mIn x.2.1 0 1000001 <;> cases mIn x.2.2.1 0 1000001 <;> cases mIn x.2.2.2.1 0 1000001 <;> rfl
theorem L_impl_PaceOk {k : Nat} (hk : 2 <= k) (x : TPace) : c_impl_PaceOk (C k) x = some (mPace x) := by
  obtain ⟨k, rfl⟩ := pk (by omega)
  rw [u_impl_PaceOk]
  simp only [impl_PaceOk, L_impl_between (k := k) (by omega), bnd_some, bnd_same, some_bif, mPace]
  cases mIn x.1 0 1000001 <;> cases mIn x.2.1 0 1000001 <;> cases mIn x.2.2.1 0 1000001 <;> cases mIn x.2.2.2.1 0 1000001 <;> rfl
def mFlight (f : TSave) : Bool := mIn f.1 0 1100000 && mIn (slen f.2) 1 20000
def mWire (w : TWire) : Bool := (mIn w.1 0 65535 && (mIn w.2.1 0 12 && mIn w.2.2.1 0 12)) && ((mIn w.2.2.2.1 0 100 && (mIn w.2.2.2.2.1 0 100 && mIn w.2.2.2.2.2.1 0 100)) &&
  ((mIn w.2.2.2.2.2.2.1 0 1000000 && (mIn w.2.2.2.2.2.2.2.2.1 0 1000000 && mIn w.2.2.2.2.2.2.2.2.2 0 1000000)) && (ileq (len w.2.2.2.2.2.2.2.1) 200 && w.2.2.2.2.2.2.2.1.all mFlight)))
theorem igtr_not (x y : Int) : igtr x y = !ileq x y := by
  simp only [igtr, ileq]
  by_cases h : x <= y
  · have : ¬ x > y := by omega
    simp [*]
  · have : x > y := by omega
    simp [*]
theorem L_impl_WireOk {k : Nat} (hk : 2 <= k) (x : TWire) (hl : x.2.2.2.2.2.2.2.1.length <= 1048576) : c_impl_WireOk (C k) x = some (mWire x) := by
  obtain ⟨k, rfl⟩ := pk (by omega)
  rw [u_impl_WireOk]
  have hz : loopW (impl_WireOk_l0 (C k) (fun v17 => (some true))) (x.2.2.2.2.2.2.2.1, len x.2.2.2.2.2.2.2.1, 0, ()) = bif List.all x.2.2.2.2.2.2.2.1 mFlight then (some true) else (some false) := by
    have hm : List.length x.2.2.2.2.2.2.2.1 <= maxLen := Nat.le_trans hl (by decide)
    refine loop_all0 x.2.2.2.2.2.2.2.1 (fun n => (x.2.2.2.2.2.2.2.1, len x.2.2.2.2.2.2.2.1, (n : Int), ())) mFlight false (some true) (fun n hn ag => ?_) (fun ag => ?_)
    · have e0 : inb (n : Int) (len x.2.2.2.2.2.2.2.1) = true := inb_nat n hn
      have e2 : ilss (n : Int) (len x.2.2.2.2.2.2.2.1) = true := ilss_nat hn
      simp only [impl_WireOk_l0, Int.toNat_natCast, e0, e2, cond_true, ck_true, getD_lt hn, w64_succ hn hm, bnd_some, L_impl_between (k := k) (by omega), some_bif, mFlight]
      cases mIn x.2.2.2.2.2.2.2.1[n].1 0 1100000 <;> cases mIn (slen x.2.2.2.2.2.2.2.1[n].2) 1 20000 <;> rfl
    · have e2 : ilss (List.length x.2.2.2.2.2.2.2.1 : Int) (len x.2.2.2.2.2.2.2.1) = false := ilss_end _
      simp only [impl_WireOk_l0, e2, cond_false]
  simp only [impl_WireOk, L_impl_between (k := k) (by omega), bnd_some, hz, some_bif, mWire, igtr_not]
  cases mIn x.1 0 65535 <;> cases mIn x.2.1 0 12 <;> cases mIn x.2.2.1 0 12 <;> first | rfl | skip
  cases mIn x.2.2.2.1 0 100 <;> cases mIn x.2.2.2.2.1 0 100 <;> cases mIn x.2.2.2.2.2.1 0 100 <;> first | rfl | skip
  cases mIn x.2.2.2.2.2.2.1 0 1000000 <;> cases mIn x.2.2.2.2.2.2.2.2.1 0 1000000 <;> cases mIn x.2.2.2.2.2.2.2.2.2 0 1000000 <;> first | rfl | skip
  cases ileq (len x.2.2.2.2.2.2.2.1) 200 <;> cases x.2.2.2.2.2.2.2.1.all mFlight <;> rfl
theorem L_spec_WireOk {k : Nat} (hk : 2 <= k) (x : TWire) (hl : x.2.2.2.2.2.2.2.1.length <= 1048576) : c_spec_WireOk (C k) x = some (mWire x) := by
  obtain ⟨k, rfl⟩ := pk (by omega)
  rw [u_spec_WireOk]
  simp only [spec_WireOk, L_spec_l01In (k := k) (by omega), bnd_some, bnd_same, some_bif]
  have hm : x.2.2.2.2.2.2.2.1.length <= maxLen := Nat.le_trans hl (by decide)
  refine (loop_all0 x.2.2.2.2.2.2.2.1 (fun n => ((n : Int), x.1, x.2.1, x.2.2.1, x.2.2.2.1, x.2.2.2.2.1, x.2.2.2.2.2.1, x.2.2.2.2.2.2.1, x.2.2.2.2.2.2.2.1, x.2.2.2.2.2.2.2.2.1, x.2.2.2.2.2.2.2.2.2, ())) mFlight false ?K (fun n hn ag => ?h) (fun ag => ?e)).trans ?r
  case e =>
    have e2 : ilss (x.2.2.2.2.2.2.2.1.length : Int) (len x.2.2.2.2.2.2.2.1) = false := ilss_end _
    simp only [spec_WireOk_l0, e2, cond_false]
    rfl
  case h =>
    have e0 : inb (n : Int) (len x.2.2.2.2.2.2.2.1) = true := inb_nat n hn
    have e2 : ilss (n : Int) (len x.2.2.2.2.2.2.2.1) = true := ilss_nat hn
    simp only [spec_WireOk_l0, Int.toNat_natCast, e0, e2, cond_true, ck_true, getD_lt hn, w64_succ hn hm, bnd_some, L_spec_l01In (k := k) (by omega), some_bif, mFlight]
    cases mIn x.2.2.2.2.2.2.2.1[n].1 0 1100000 <;> cases mIn (slen x.2.2.2.2.2.2.2.1[n].2) 1 20000 <;> rfl
  case r =>
    unfold mWire
    cases mIn x.1 0 65535 <;> cases mIn x.2.1 0 12 <;> cases mIn x.2.2.1 0 12 <;> first | (cases x.2.2.2.2.2.2.2.1.all mFlight <;> cases ileq (len x.2.2.2.2.2.2.2.1) 200 <;> rfl) | skip
    cases mIn x.2.2.2.1 0 100 <;> cases mIn x.2.2.2.2.1 0 100 <;> cases mIn x.2.2.2.2.2.1 0 100 <;> first | (cases x.2.2.2.2.2.2.2.1.all mFlight <;> cases ileq (len x.2.2.2.2.2.2.2.1) 200 <;> rfl) | skip
    cases mIn x.2.2.2.2.2.2.1 0 1000000 <;> cases mIn x.2.2.2.2.2.2.2.2.1 0 1000000 <;> cases mIn x.2.2.2.2.2.2.2.2.2 0 1000000 <;> cases x.2.2.2.2.2.2.2.1.all mFlight <;> cases ileq (len x.2.2.2.2.2.2.2.1) 200 <;> rfl
def mRow (row : List Int) (p : Int) : Bool := ieql (len row) p && mInputs row
theorem L_impl_rowOk {k : Nat} (hk : 3 <= k) (xs : List Int) (p : Int) (hl : xs.length <= 1048576) : c_impl_rowOk (C k) (xs, p) = some (mRow xs p) := by
  obtain ⟨k, rfl⟩ := pk (by omega)
  rw [u_impl_rowOk]
  simp only [impl_rowOk, L_impl_inputsOk (k := k) (by omega) xs hl, bnd_some, bnd_same, some_bif, mRow]
  cases ieql (len xs) p <;> rfl
theorem L_spec_l02RowOk {k : Nat} (hk : 2 <= k) (xs : List Int) (p : Int) (hl : xs.length <= 1048576) : c_spec_l02RowOk (C k) (xs, p) = some (mRow xs p) := by
  obtain ⟨k, rfl⟩ := pk (by omega)
  rw [u_spec_l02RowOk]
  have hz : loopW (spec_l02RowOk_l0 (C k) (fun v3 => (some (ieql (len v3.1) v3.2.1)))) (xs, p, 0, ()) = bif List.all xs mInp then (some (ieql (len xs) p)) else (some false) := by
    have hm : List.length xs <= maxLen := Nat.le_trans hl (by decide)
    refine loop_all0 xs (fun n => (xs, p, (n : Int), ())) mInp false (some (ieql (len xs) p)) (fun n hn ag => ?_) (fun ag => ?_)
    · have e0 : inb (n : Int) (len xs) = true := inb_nat n hn
      have e2 : ilss (n : Int) (len xs) = true := ilss_nat hn
      simp only [spec_l02RowOk_l0, Int.toNat_natCast, e0, e2, cond_true, ck_true, getD_lt hn, w64_succ hn hm, bnd_some, L_spec_l01In (k := k) (by omega)]
      show (bif !mIn xs[n] 0 15 then _ else _) = bif mIn xs[n] 0 15 then _ else _
      cases mIn xs[n] 0 15 <;> rfl
    · have e2 : ilss (List.length xs : Int) (len xs) = false := ilss_end _
      simp only [spec_l02RowOk_l0, e2, cond_false]
  simp only [spec_l02RowOk, hz, some_bif, mRow, mInputs]
  cases ieql (len xs) p <;> cases xs.all mInp <;> rfl
def mScript (xs : List Int) : Bool := mIn (len xs) 1 400 && mInputs xs
theorem L_impl_scriptOk {k : Nat} (hk : 3 <= k) (xs : List Int) (hl : xs.length <= 1048576) : c_impl_scriptOk (C k) xs = some (mScript xs) := by
  obtain ⟨k, rfl⟩ := pk (by omega)
  rw [u_impl_scriptOk]
  simp only [impl_scriptOk, L_impl_inputsOk (k := k) (by omega) xs hl, bnd_some, bnd_same, some_bif, mScript]
  have : mIn (len xs) 1 400 = (igeq (len xs) 1 && ileq (len xs) 400) := rfl
  rw [this]
  cases igeq (len xs) 1 <;> cases ileq (len xs) 400 <;> rfl
def mScriptIn (xs : List Int) (d t : Int) : Int := bif mScript xs && (mIn d 0 5 && !ilss t 0) then (bif ilss t d then 0 else List.getD xs (Int.toNat (Int.tmod (t - d) (len xs))) 0) else -1
theorem script_at {xs : List Int} {d t : Int} (h : mScript xs = true) (hd : mIn d 0 5 = true) (h0 : ilss t 0 = false) (h1 : ilss t d = false) (ht : t <= 9223372036854775807) : nz (len xs) = true /\ w64 (t - d) = t - d /\ inb (Int.tmod (t - d) (len xs)) (len xs) = true := by
  unfold mScript at h
  rw [Bool.and_eq_true, mIn_iff] at h
  rw [mIn_iff] at hd
  simp only [ilss, decide_eq_false_iff_not] at h0 h1
  have hx : (1 : Int) <= len xs := h.1.1
  refine ⟨?_, w64_id (by omega) (by omega), ?_⟩
  · simp only [nz, Bool.not_eq_true', decide_eq_false_iff_not]; omega
  · have a := Int.tmod_nonneg (len xs) (show 0 <= t - d by omega)
    have b := Int.tmod_lt_of_pos (t - d) (show 0 < len xs by omega)
    simp only [inb, Bool.and_eq_true, decide_eq_true_eq]
    exact ⟨a, b⟩
theorem L_impl_ScriptInput {k : Nat} (hk : 4 <= k) (xs : List Int) (d t : Int) (hl : xs.length <= 1048576) (ht : t <= 9223372036854775807) : c_impl_ScriptInput (C k) (xs, d, t) = some (mScriptIn xs d t) := by
  obtain ⟨k, rfl⟩ := pk (by omega)
  rw [u_impl_ScriptInput]
  simp only [impl_ScriptInput, L_impl_scriptOk (k := k) (by omega) xs hl, L_impl_between (k := k) (by omega), bnd_some, some_bif, mScriptIn]
  cases h1 : mScript xs <;> cases h2 : mIn d 0 5 <;> cases h3 : ilss t 0 <;> first | rfl | skip
  cases h4 : ilss t d with
  | true => rfl
  | false =>
    obtain ⟨e1, e2, e3⟩ := script_at h1 h2 h3 h4 ht
    simp only [e2, e1, e3, Bool.not_true, cond_false, ck_true]
    rfl
theorem L_spec_ScriptInput {k : Nat} (hk : 3 <= k) (xs : List Int) (d t : Int) (hl : xs.length <= 1048576) (ht : t <= 9223372036854775807) : c_spec_ScriptInput (C k) (xs, d, t) = some (mScriptIn xs d t) := by
  obtain ⟨k, rfl⟩ := pk (by omega)
  rw [u_spec_ScriptInput]
  simp only [spec_ScriptInput, L_spec_l03Inputs (k := k) (by omega) xs hl, L_spec_l01In (k := k) (by omega), bnd_some, some_bif, mScriptIn]
  cases h1 : mIn (len xs) 1 400 <;> cases h1' : mInputs xs <;> cases h2 : mIn d 0 5 <;> cases h3 : ilss t 0 <;> first | (simp [mScript, h1, h1']; done) | skip
  have hs : mScript xs = true := by simp [mScript, h1, h1']
  cases h4 : ilss t d with
  | true => simp [hs]
  | false =>
    obtain ⟨e1, e2, e3⟩ := script_at hs h2 h3 h4 ht
    simp only [e2, e1, e3, Bool.not_true, cond_false, ck_true, hs]
    rfl
def mNext (s : Int) : Int := bif mIn s 0 65535 then (s * 25173 + 13849) % 65536 else 0
theorem L_impl_NextRandom {k : Nat} (hk : 1 <= k) (s : Int) : c_impl_NextRandom (C k) s = some (mNext s) := by
  obtain ⟨k, rfl⟩ := pk (by omega)
  rw [u_impl_NextRandom]
  simp only [impl_NextRandom, some_bif, out_in, bnd_some, mNext]
  cases h : mIn s 0 65535 with
  | false => rfl
  | true =>
    rw [mIn_iff] at h
    have e1 := w64_id (x := s * 25173) (by omega) (by omega)
    have e2 := w64_id (x := s * 25173 + 13849) (by omega) (by omega)
    simp only [e1, e2, Bool.not_true, cond_false, cond_true]
    rw [Int.tmod_eq_emod_of_nonneg (by omega)]
theorem L_spec_NextRandom {k : Nat} (hk : 2 <= k) (s : Int) : c_spec_NextRandom (C k) s = some (mNext s) := by
  obtain ⟨k, rfl⟩ := pk (by omega)
  rw [u_spec_NextRandom]
  simp only [spec_NextRandom, L_spec_l01In (k := k) (by omega), some_bif, bnd_some, mNext]
  cases h : mIn s 0 65535 with
  | false => rfl
  | true =>
    rw [mIn_iff] at h
    have e1 := w64_id (x := s * 25173) (by omega) (by omega)
    have e2 := w64_id (x := s * 25173 + 13849) (by omega) (by omega)
    simp only [e1, e2, Bool.not_true, cond_false, cond_true]
    exact congrArg some (iand_mask (s * 25173 + 13849) (by omega) (by omega) 16 (by omega))
theorem mNext_in (s : Int) : 0 <= mNext s /\ mNext s <= 65535 := by
  unfold mNext
  cases mIn s 0 65535 with
  | false => exact ⟨Int.le_refl _, (by decide : (0 : Int) <= 65535)⟩
  | true => simp only [cond_true]; omega
def mRand (s n : Int) : Int × Int := bif mIn s 0 65535 && mIn n 1 4096 then (mNext s, Int.tmod (Int.tdiv (mNext s) 16) n) else (0, 0)
theorem rand_ok {s n : Int} (h : mIn n 1 4096 = true) : nz n = true /\ w64 (Int.tdiv (mNext s) 16) = Int.tdiv (mNext s) 16 := by
  rw [mIn_iff] at h
  have := mNext_in s
  refine ⟨by simp only [nz, Bool.not_eq_true', decide_eq_false_iff_not]; omega, ?_⟩
  rw [Int.tdiv_eq_ediv_of_nonneg this.1]
  exact w64_id (by omega) (by omega)
theorem L_impl_RandomBelow {k : Nat} (hk : 2 <= k) (s n : Int) : c_impl_RandomBelow (C k) (s, n) = some (mRand s n) := by
  obtain ⟨k, rfl⟩ := pk (by omega)
  rw [u_impl_RandomBelow]
  simp only [impl_RandomBelow, L_impl_NextRandom (k := k) (by omega), some_bif, bnd_some, mRand]
  have e1 := out_in s 0 65535
  have e2 := out_in n 1 4096
  have e : (bif ilss s 0 then true else bif igtr s 65535 then true else bif ilss n 1 then true else igtr n 4096) = !(mIn s 0 65535 && mIn n 1 4096) := by
    rw [e2, Bool.not_and, <- e1]
    cases ilss s 0 <;> cases igtr s 65535 <;> rfl
  rw [e]
  cases h1 : mIn s 0 65535 <;> cases h2 : mIn n 1 4096 <;> first | rfl | skip
  obtain ⟨g1, g2⟩ := rand_ok (s := s) h2
  simp only [g1, g2, Bool.and_self, Bool.not_true, cond_false, cond_true, ck_true]
theorem L_spec_RandomBelow {k : Nat} (hk : 3 <= k) (s n : Int) : c_spec_RandomBelow (C k) (s, n) = some (mRand s n) := by
  obtain ⟨k, rfl⟩ := pk (by omega)
  rw [u_spec_RandomBelow]
  simp only [spec_RandomBelow, L_spec_NextRandom (k := k) (by omega), L_spec_l01In (k := k) (by omega), some_bif, bnd_some, mRand]
  cases h1 : mIn s 0 65535 <;> cases h2 : mIn n 1 4096 <;> first | rfl | skip
  obtain ⟨g1, g2⟩ := rand_ok (s := s) h2
  simp only [g1, g2, Bool.and_self, Bool.not_true, cond_false, cond_true, ck_true]
end Go.Proofs.YtaflceohlijekaaGreat.Ev
namespace Go.Proofs.YtaflceohlijekaaGreat.Ev
def mEqL {α : Type} (eq : α -> α -> Bool) (a b : List α) : Bool := ieql (len a) (len b) && (a.zip b).all (fun q => eq q.1 q.2)
def mEqB (a b : TBody) : Bool := ieql a.1 b.1 && (ieql a.2.1 b.2.1 && (ieql a.2.2.1 b.2.2.1 && (ieql a.2.2.2.1 b.2.2.2.1 && (ieql a.2.2.2.2.1 b.2.2.2.2.1 && (ieql a.2.2.2.2.2.1 b.2.2.2.2.2.1 && (ieql a.2.2.2.2.2.2.1 b.2.2.2.2.2.2.1 && (ieql a.2.2.2.2.2.2.2.1 b.2.2.2.2.2.2.2.1 && (ieql a.2.2.2.2.2.2.2.2 b.2.2.2.2.2.2.2.2 && true))))))))
theorem ineq_not (x y : Int) : ineq x y = !ieql x y := by simp [ineq, ieql, bne]
theorem ieql_len {α β : Type} {a : List α} {b : List β} (h : ieql (len a) (len b) = true) : a.length = b.length := by
  have : len a = len b := by simpa [ieql] using h
  simp only [len] at this
  omega
theorem L_spec_l02SameLevel {k : Nat} (hk : 1 <= k) (a b : List ByteArray) (hl : a.length <= 1048576) : c_spec_l02SameLevel (C k) (a, b) = some (mEqL seq a b) := by
  obtain ⟨k, rfl⟩ := pk (by omega)
  rw [u_spec_l02SameLevel]
  simp only [spec_l02SameLevel, ineq_not, mEqL]
  cases hlen : ieql (len a) (len b) with
  | false => rfl
  | true =>
    have hab := ieql_len hlen
    have hm : a.length <= maxLen := Nat.le_trans hl (by decide)
    simp only [Bool.not_true, cond_false, Bool.true_and]
    refine (loop_all2 a b hab (fun n => ((n : Int), a, b, ())) seq false (some true) (fun n hn hn2 ag => ?_) (fun ag => ?_)).trans (by rw [some_bif]; cases (a.zip b).all _ <;> rfl)
    · have e0 : inb (n : Int) (len a) = true := inb_nat n hn
      have e1 : inb (n : Int) (len b) = true := inb_nat n hn2
      have e2 : ilss (n : Int) (len a) = true := ilss_nat hn
      simp only [spec_l02SameLevel_l0, Int.toNat_natCast, e0, e1, e2, cond_true, ck_true, getD_lt hn, getD_lt hn2, w64_succ hn hm, ineq_not, <- mEqB.eq_1]
      cases seq a[n] b[n] <;> rfl
    · have e2 : ilss (a.length : Int) (len a) = false := ilss_end _
      simp only [spec_l02SameLevel_l0, e2, cond_false]
theorem L_spec_l02Ints {k : Nat} (hk : 1 <= k) (a b : List Int) (hl : a.length <= 1048576) : c_spec_l02Ints (C k) (a, b) = some (mEqL ieql a b) := by
  obtain ⟨k, rfl⟩ := pk (by omega)
  rw [u_spec_l02Ints]
  simp only [spec_l02Ints, ineq_not, mEqL]
  cases hlen : ieql (len a) (len b) with
  | false => rfl
  | true =>
    have hab := ieql_len hlen
    have hm : a.length <= maxLen := Nat.le_trans hl (by decide)
    simp only [Bool.not_true, cond_false, Bool.true_and]
    refine (loop_all2 a b hab (fun n => (a, b, (n : Int), ())) ieql false (some true) (fun n hn hn2 ag => ?_) (fun ag => ?_)).trans (by rw [some_bif]; cases (a.zip b).all _ <;> rfl)
    · have e0 : inb (n : Int) (len a) = true := inb_nat n hn
      have e1 : inb (n : Int) (len b) = true := inb_nat n hn2
      have e2 : ilss (n : Int) (len a) = true := ilss_nat hn
      simp only [spec_l02Ints_l0, Int.toNat_natCast, e0, e1, e2, cond_true, ck_true, getD_lt hn, getD_lt hn2, w64_succ hn hm, ineq_not, <- mEqB.eq_1]
      cases ieql a[n] b[n] <;> rfl
    · have e2 : ilss (a.length : Int) (len a) = false := ilss_end _
      simp only [spec_l02Ints_l0, e2, cond_false]
theorem L_slices_Equal_int_int {k : Nat} (hk : 1 <= k) (a b : List Int) (hl : a.length <= 1048576) : c_slices_Equal_int_int (C k) (a, b) = some (mEqL ieql a b) := by
  obtain ⟨k, rfl⟩ := pk (by omega)
  rw [u_slices_Equal_int_int]
  simp only [slices_Equal_int_int, ineq_not, mEqL]
  cases hlen : ieql (len a) (len b) with
  | false => rfl
  | true =>
    have hab := ieql_len hlen
    have hm : a.length <= maxLen := Nat.le_trans hl (by decide)
    simp only [Bool.not_true, cond_false, Bool.true_and]
    refine (loop_all2 a b hab (fun n => (a, b, len a, (n : Int), ())) ieql false (some true) (fun n hn hn2 ag => ?_) (fun ag => ?_)).trans (by rw [some_bif]; cases (a.zip b).all _ <;> rfl)
    · have e0 : inb (n : Int) (len a) = true := inb_nat n hn
      have e1 : inb (n : Int) (len b) = true := inb_nat n hn2
      have e2 : ilss (n : Int) (len a) = true := ilss_nat hn
      simp only [slices_Equal_int_int_l0, Int.toNat_natCast, e0, e1, e2, cond_true, ck_true, getD_lt hn, getD_lt hn2, w64_succ hn hm, ineq_not, <- mEqB.eq_1]
      cases ieql a[n] b[n] <;> rfl
    · have e2 : ilss (a.length : Int) (len a) = false := ilss_end _
      simp only [slices_Equal_int_int_l0, e2, cond_false]
theorem L_slices_Equal_string_string {k : Nat} (hk : 1 <= k) (a b : List ByteArray) (hl : a.length <= 1048576) : c_slices_Equal_string_string (C k) (a, b) = some (mEqL seq a b) := by
  obtain ⟨k, rfl⟩ := pk (by omega)
  rw [u_slices_Equal_string_string]
  simp only [slices_Equal_string_string, ineq_not, mEqL]
  cases hlen : ieql (len a) (len b) with
  | false => rfl
  | true =>
    have hab := ieql_len hlen
    have hm : a.length <= maxLen := Nat.le_trans hl (by decide)
    simp only [Bool.not_true, cond_false, Bool.true_and]
    refine (loop_all2 a b hab (fun n => (a, b, len a, (n : Int), ())) seq false (some true) (fun n hn hn2 ag => ?_) (fun ag => ?_)).trans (by rw [some_bif]; cases (a.zip b).all _ <;> rfl)
    · have e0 : inb (n : Int) (len a) = true := inb_nat n hn
      have e1 : inb (n : Int) (len b) = true := inb_nat n hn2
      have e2 : ilss (n : Int) (len a) = true := ilss_nat hn
      simp only [slices_Equal_string_string_l0, Int.toNat_natCast, e0, e1, e2, cond_true, ck_true, getD_lt hn, getD_lt hn2, w64_succ hn hm, ineq_not, <- mEqB.eq_1]
      cases seq a[n] b[n] <;> rfl
    · have e2 : ilss (a.length : Int) (len a) = false := ilss_end _
      simp only [slices_Equal_string_string_l0, e2, cond_false]
theorem L_slices_Equal_impl_Body_impl_Body {k : Nat} (hk : 1 <= k) (a b : List TBody) (hl : a.length <= 1048576) : c_slices_Equal_impl_Body_impl_Body (C k) (a, b) = some (mEqL mEqB a b) := by
  obtain ⟨k, rfl⟩ := pk (by omega)
  rw [u_slices_Equal_impl_Body_impl_Body]
  simp only [slices_Equal_impl_Body_impl_Body, ineq_not, mEqL]
  cases hlen : ieql (len a) (len b) with
  | false => rfl
  | true =>
    have hab := ieql_len hlen
    have hm : a.length <= maxLen := Nat.le_trans hl (by decide)
    simp only [Bool.not_true, cond_false, Bool.true_and]
    refine (loop_all2 a b hab (fun n => (a, b, len a, (n : Int), ())) mEqB false (some true) (fun n hn hn2 ag => ?_) (fun ag => ?_)).trans (by rw [some_bif]; cases (a.zip b).all _ <;> rfl)
    · have e0 : inb (n : Int) (len a) = true := inb_nat n hn
      have e1 : inb (n : Int) (len b) = true := inb_nat n hn2
      have e2 : ilss (n : Int) (len a) = true := ilss_nat hn
      simp only [slices_Equal_impl_Body_impl_Body_l0, Int.toNat_natCast, e0, e1, e2, cond_true, ck_true, getD_lt hn, getD_lt hn2, w64_succ hn hm, ineq_not, <- mEqB.eq_1]
      cases mEqB a[n] b[n] <;> rfl
    · have e2 : ilss (a.length : Int) (len a) = false := ilss_end _
      simp only [slices_Equal_impl_Body_impl_Body_l0, e2, cond_false]
theorem L_impl_sameLevel {k : Nat} (hk : 2 <= k) (a b : List ByteArray) (hl : a.length <= 1048576) : c_impl_sameLevel (C k) (a, b) = some (mEqL seq a b) := by
  obtain ⟨k, rfl⟩ := pk (by omega)
  rw [u_impl_sameLevel]
  simp only [impl_sameLevel, L_slices_Equal_string_string (k := k) (by omega) a b hl, bnd_some]
def mSame (a b : TWorld) : Bool := mEqL seq a.1 b.1 && (ieql a.2.1 b.2.1 && (ieql a.2.2.1 b.2.2.1 && (mEqL ieql a.2.2.2.1 b.2.2.2.1 && mEqL mEqB a.2.2.2.2 b.2.2.2.2)))
theorem L_impl_SameWorld {k : Nat} (hk : 3 <= k) (a b : TWorld) (h1 : a.1.length <= 1048576) (h2 : a.2.2.2.1.length <= 1048576) (h3 : a.2.2.2.2.length <= 1048576) : c_impl_SameWorld (C k) (a, b) = some (mSame a b) := by
  obtain ⟨k, rfl⟩ := pk (by omega)
  rw [u_impl_SameWorld]
  simp only [impl_SameWorld, L_impl_sameLevel (k := k) (by omega) _ _ h1, L_slices_Equal_int_int (k := k) (by omega) _ _ h2, L_slices_Equal_impl_Body_impl_Body (k := k) (by omega) _ _ h3, bnd_some, bnd_same, some_bif, mSame]
  cases mEqL seq a.1 b.1 <;> cases ieql a.2.1 b.2.1 <;> cases ieql a.2.2.1 b.2.2.1 <;> cases mEqL ieql a.2.2.2.1 b.2.2.2.1 <;> cases mEqL mEqB a.2.2.2.2 b.2.2.2.2 <;> rfl
theorem L_spec_SameWorld {k : Nat} (hk : 2 <= k) (a b : TWorld) (h1 : a.1.length <= 1048576) (h2 : a.2.2.2.1.length <= 1048576) (h3 : a.2.2.2.2.length <= 1048576) : c_spec_SameWorld (C k) (a, b) = some (mSame a b) := by
  obtain ⟨k, rfl⟩ := pk (by omega)
  rw [u_spec_SameWorld]
  simp only [spec_SameWorld, L_spec_l02SameLevel (k := k) (by omega) _ _ h1, L_spec_l02Ints (k := k) (by omega) _ _ h2, bnd_some, some_bif, mSame, ineq_not]
  cases e1 : ieql a.2.1 b.2.1 <;> cases e2 : ieql a.2.2.1 b.2.2.1 <;> cases e3 : mEqL ieql a.2.2.2.1 b.2.2.2.1 <;> cases e4 : mEqL seq a.1 b.1 <;> cases e5 : ieql (len a.2.2.2.2) (len b.2.2.2.2) <;> first | rfl | (simp [mEqL, e5]; done) | skip
  have hab := ieql_len e5
  have hm : a.2.2.2.2.length <= maxLen := Nat.le_trans h3 (by decide)
  refine (loop_all2 a.2.2.2.2 b.2.2.2.2 hab (fun n => ((n : Int), a.1, a.2.1, a.2.2.1, a.2.2.2.1, a.2.2.2.2, b.1, b.2.1, b.2.2.1, b.2.2.2.1, b.2.2.2.2, ())) mEqB false (some true) (fun n hn hn2 ag => ?_) (fun ag => ?_)).trans ?_
  · have e0 : inb (n : Int) (len a.2.2.2.2) = true := inb_nat n hn
    have e1 : inb (n : Int) (len b.2.2.2.2) = true := inb_nat n hn2
    have e2 : ilss (n : Int) (len a.2.2.2.2) = true := ilss_nat hn
    simp only [spec_SameWorld_l0, Int.toNat_natCast, e0, e1, e2, cond_true, ck_true, getD_lt hn, getD_lt hn2, w64_succ hn hm, <- mEqB.eq_1]
    cases mEqB a.2.2.2.2[n] b.2.2.2.2[n] <;> rfl
  · have e2 : ilss (a.2.2.2.2.length : Int) (len a.2.2.2.2) = false := ilss_end _
    simp only [spec_SameWorld_l0, e2, cond_false]
  · rw [some_bif]
    simp only [mEqL, e5, Bool.true_and]
    cases (a.2.2.2.2.zip b.2.2.2.2).all (fun q => mEqB q.1 q.2) <;> rfl
theorem L_spec_l02CopyLevel {k : Nat} (hk : 1 <= k) (x : List ByteArray) (hl : x.length <= 1048576) : c_spec_l02CopyLevel (C k) x = some x := by
  obtain ⟨k, rfl⟩ := pk (by omega)
  rw [u_spec_l02CopyLevel]
  simp only [spec_l02CopyLevel]
  rw [ck_of (by simp only [room, List.length_nil, decide_eq_true_eq]; omega)]
  rfl
theorem L_impl_copyLevel {k : Nat} (hk : 1 <= k) (x : List ByteArray) (hl : x.length <= 1048576) : c_impl_copyLevel (C k) x = some x := by
  obtain ⟨k, rfl⟩ := pk (by omega)
  rw [u_impl_copyLevel]
  simp only [impl_copyLevel]
  rw [ck_of (by simp only [room, List.length_nil, decide_eq_true_eq]; omega)]
  rfl
theorem L_spec_l02Copy {k : Nat} (hk : 2 <= k) (x : TWorld) (h1 : x.1.length <= 1048576) (h2 : x.2.2.2.1.length <= 1048576) (h3 : x.2.2.2.2.length <= 1048576) : c_spec_l02Copy (C k) x = some x := by
  obtain ⟨k, rfl⟩ := pk (by omega)
  rw [u_spec_l02Copy]
  simp only [spec_l02Copy, L_spec_l02CopyLevel (k := k) (by omega) _ h1, bnd_some]
  rw [ck_of (by simp only [room, List.length_nil, decide_eq_true_eq]; omega), ck_of (by simp only [room, List.length_nil, decide_eq_true_eq]; omega)]
  rfl
theorem L_impl_copyWorld {k : Nat} (hk : 2 <= k) (x : TWorld) (h1 : x.1.length <= 1048576) (h2 : x.2.2.2.1.length <= 1048576) (h3 : x.2.2.2.2.length <= 1048576) : c_impl_copyWorld (C k) x = some x := by
  obtain ⟨k, rfl⟩ := pk (by omega)
  rw [u_impl_copyWorld]
  simp only [impl_copyWorld, L_impl_copyLevel (k := k) (by omega) _ h1, bnd_some]
  rw [ck_of (by simp only [room, List.length_nil, decide_eq_true_eq]; omega), ck_of (by simp only [room, List.length_nil, decide_eq_true_eq]; omega)]
  rfl
def mShot (b : TBody) : TBody := bif mIn b.2.2.1 0 1000 && (mIn b.2.2.2.1 0 1000 && mIn b.2.2.2.2.2.2.1 (-1) 1) then (1, b.2.1, b.2.2.1 + 4, b.2.2.2.1 + 4, 6 * b.2.2.2.2.2.2.1, 0, 0, 0, 25) else (0, 0, 0, 0, 0, 0, 0, 0, 0)
theorem L_spec_ShotOf {k : Nat} (hk : 2 <= k) (b : TBody) : c_spec_ShotOf (C k) b = some (mShot b) := by
  obtain ⟨k, rfl⟩ := pk (by omega)
  rw [u_spec_ShotOf]
  simp only [spec_ShotOf, L_spec_l01In (k := k) (by omega), bnd_some, some_bif, mShot]
  cases h1 : mIn b.2.2.1 0 1000 <;> cases h2 : mIn b.2.2.2.1 0 1000 <;> cases h3 : mIn b.2.2.2.2.2.2.1 (-1) 1 <;> first | rfl | skip
  rw [mIn_iff] at h1 h2 h3
  simp only [w64_id (x := b.2.2.1 + 4) (by omega) (by omega), w64_id (x := b.2.2.2.1 + 4) (by omega) (by omega), w64_id (x := 6 * b.2.2.2.2.2.2.1) (by omega) (by omega)]
  rfl
theorem L_impl_ShotOf {k : Nat} (hk : 2 <= k) (b : TBody) : c_impl_ShotOf (C k) b = some (mShot b) := by
  obtain ⟨k, rfl⟩ := pk (by omega)
  rw [u_impl_ShotOf]
  simp only [impl_ShotOf, L_impl_between (k := k) (by omega), bnd_some, some_bif, mShot]
  cases h1 : mIn b.2.2.1 0 1000 <;> cases h2 : mIn b.2.2.2.1 0 1000 <;> cases h3 : mIn b.2.2.2.2.2.2.1 (-1) 1 <;> first | rfl | skip
  rw [mIn_iff] at h1 h2 h3
  simp only [w64_id (x := b.2.2.1 + 4) (by omega) (by omega), w64_id (x := b.2.2.2.1 + 4) (by omega) (by omega), w64_id (x := 6 * b.2.2.2.2.2.2.1) (by omega) (by omega)]
  rfl
def mMeet (a b : TBody) : Bool := !ieql (mSize a.1) 0 && (!ieql (mSize b.1) 0 && ((mIn a.2.2.1 0 1000 && (mIn a.2.2.2.1 0 1000 && (mIn b.2.2.1 0 1000 && mIn b.2.2.2.1 0 1000))) &&
  (ilss a.2.2.1 (b.2.2.1 + mSize b.1) && (ilss b.2.2.1 (a.2.2.1 + mSize a.1) && (ilss a.2.2.2.1 (b.2.2.2.1 + mSize b.1) && ilss b.2.2.2.1 (a.2.2.2.1 + mSize a.1))))))
theorem mSize_le (k : Int) : 0 <= mSize k /\ mSize k <= 12 := by
  unfold mSize
  cases ieql k 0 <;> cases ieql k 1 <;> cases ieql k 2 <;> exact ⟨by decide, by decide⟩
theorem meet_w {x s : Int} (h : mIn x 0 1000 = true) (hs : 0 <= s /\ s <= 12) : w64 (x + s) = x + s := by
  rw [mIn_iff] at h
  exact w64_id (by omega) (by omega)
theorem L_spec_BodiesMeet {k : Nat} (hk : 2 <= k) (a b : TBody) : c_spec_BodiesMeet (C k) (a, b) = some (mMeet a b) := by
  obtain ⟨k, rfl⟩ := pk (by omega)
  rw [u_spec_BodiesMeet]
  simp only [spec_BodiesMeet, L_spec_l01In (k := k) (by omega), L_spec_SizeOf (k := k) (by omega), bnd_some, bnd_same, some_bif, mMeet]
  cases e1 : ieql (mSize a.1) 0 <;> cases e2 : ieql (mSize b.1) 0 <;> first | rfl | skip
  cases h1 : mIn a.2.2.1 0 1000 <;> cases h2 : mIn a.2.2.2.1 0 1000 <;> cases h3 : mIn b.2.2.1 0 1000 <;> cases h4 : mIn b.2.2.2.1 0 1000 <;> first | rfl | skip
  simp only [meet_w h1 (mSize_le a.1), meet_w h2 (mSize_le a.1), meet_w h3 (mSize_le b.1), meet_w h4 (mSize_le b.1)]
  cases ilss a.2.2.1 (b.2.2.1 + mSize b.1) <;> cases ilss b.2.2.1 (a.2.2.1 + mSize a.1) <;> cases ilss a.2.2.2.1 (b.2.2.2.1 + mSize b.1) <;> rfl
theorem L_impl_BodiesMeet {k : Nat} (hk : 2 <= k) (a b : TBody) : c_impl_BodiesMeet (C k) (a, b) = some (mMeet a b) := by
  obtain ⟨k, rfl⟩ := pk (by omega)
  rw [u_impl_BodiesMeet]
  simp only [impl_BodiesMeet, L_impl_SizeOf (k := k) (by omega), bnd_some, bnd_same, some_bif, mMeet]
  cases e1 : ieql (mSize a.1) 0 <;> cases e2 : ieql (mSize b.1) 0 <;> first | rfl | skip
  refine (loop_all0 [a.2.2.1, a.2.2.2.1, b.2.2.1, b.2.2.2.1] (fun n => (mSize a.1, mSize b.1, len [a.2.2.1, a.2.2.2.1, b.2.2.1, b.2.2.2.1], (n : Int), a.1, a.2.1, a.2.2.1, a.2.2.2.1, a.2.2.2.2.1, a.2.2.2.2.2.1, a.2.2.2.2.2.2.1, a.2.2.2.2.2.2.2.1, a.2.2.2.2.2.2.2.2, b.1, b.2.1, b.2.2.1, b.2.2.2.1, b.2.2.2.2.1, b.2.2.2.2.2.1, b.2.2.2.2.2.2.1, b.2.2.2.2.2.2.2.1, b.2.2.2.2.2.2.2.2, [a.2.2.1, a.2.2.2.1, b.2.2.1, b.2.2.2.1], ())) (fun x => mIn x 0 1000) false ?K (fun n hn ag => ?h) (fun ag => ?e)).trans ?r
  case e =>
    have e2 : ilss (([a.2.2.1, a.2.2.2.1, b.2.2.1, b.2.2.2.1].length : Nat) : Int) (len [a.2.2.1, a.2.2.2.1, b.2.2.1, b.2.2.2.1]) = false := ilss_end _
    simp only [impl_BodiesMeet_l0, e2, cond_false]
    rfl
  case h =>
    have e0 : inb (n : Int) (len [a.2.2.1, a.2.2.2.1, b.2.2.1, b.2.2.2.1]) = true := inb_nat n hn
    have e2 : ilss (n : Int) (len [a.2.2.1, a.2.2.2.1, b.2.2.1, b.2.2.2.1]) = true := ilss_nat hn
    simp only [impl_BodiesMeet_l0, Int.toNat_natCast, e0, e2, cond_true, ck_true, getD_lt hn, w64_succ hn (Nat.le_trans (Nat.le_refl 4) (by decide : 4 <= maxLen)), bnd_some, some_bif, out_in]
    cases mIn ([a.2.2.1, a.2.2.2.1, b.2.2.1, b.2.2.2.1] : List Int)[n] 0 1000 <;> rfl
  case r =>
    simp only [List.all_cons, List.all_nil, Bool.and_true]
    cases h1 : mIn a.2.2.1 0 1000 <;> cases h2 : mIn a.2.2.2.1 0 1000 <;> cases h3 : mIn b.2.2.1 0 1000 <;> cases h4 : mIn b.2.2.2.1 0 1000 <;> first | rfl | skip
    simp only [meet_w h1 (mSize_le a.1), meet_w h2 (mSize_le a.1), meet_w h3 (mSize_le b.1), meet_w h4 (mSize_le b.1)]
    cases ilss a.2.2.1 (b.2.2.1 + mSize b.1) <;> cases ilss b.2.2.1 (a.2.2.1 + mSize a.1) <;> cases ilss a.2.2.2.1 (b.2.2.2.1 + mSize b.1) <;> rfl
end Go.Proofs.YtaflceohlijekaaGreat.Ev
namespace Go.Proofs.YtaflceohlijekaaGreat.Ev
def ofail {R S : Type} (r0 : Option R) (o : Option S) (K : S -> Option R) : Option R := match o with | none => r0 | some s => K s
theorem loop_opt0 {V R S : Type} {body : V -> (V -> Option R) -> Option R} (N : Nat) (st : Nat -> S -> V) (f : Nat -> S -> Option S) (r0 : Option R) (K : S -> Option R) (s : S) (v : V) (hv : v = st 0 s)
    (h : ∀ n s, n < N -> ∀ ag, body (st n s) ag = ofail r0 (f n s) (fun s' => ag (st (n + 1) s'))) (he : ∀ s ag, body (st N s) ag = K s) : loopW body v = ofail r0 (mFold f N 0 s) K := by
  subst hv
  have := loop_opt N st f r0 K (fun n s hn ag => by rw [h n s hn ag]; unfold ofail; cases f n s <;> rfl) he N 0 s (by omega)
  rw [this]
  unfold ofail
  cases mFold f N 0 s <;> rfl
abbrev Seen := Bool × Bool × Bool × Bool × Bool
def mTile (edge : Bool) (t : Int) (s : Seen) : Option Seen :=
  bif ieql t 35 then some s else bif edge then none else
  bif ieql t 49 then (bif s.2.1 then none else some (true, true, s.2.2.1, s.2.2.2.1, s.2.2.2.2)) else
  bif ieql t 50 then (bif s.2.2.1 then none else some (true, s.2.1, true, s.2.2.2.1, s.2.2.2.2)) else
  bif ieql t 51 then (bif s.2.2.2.1 then none else some (true, s.2.1, s.2.2.1, true, s.2.2.2.2)) else
  bif ieql t 52 then (bif s.2.2.2.2 then none else some (true, s.2.1, s.2.2.1, s.2.2.2.1, true)) else
  bif ieql t 111 then some (true, s.2) else bif ieql t 46 then some (true, s.2) else none
def mEdge (L w n m : Int) : Bool := bif ieql n 0 then true else bif ieql m 0 then true else bif ieql n (w64 (L - 1)) then true else ieql m (w64 (w - 1))
def mTileAt (x : List ByteArray) (w : Nat) (n m : Nat) (s : Seen) : Option Seen := mTile (mEdge (len x) (w : Int) (n : Int) (m : Int)) (bytesIdx (List.getD x n eS) (m : Int)) s
def mRowAt (x : List ByteArray) (w : Nat) (n : Nat) (s : Seen) : Option Seen := bif ieql (slen (List.getD x n eS)) (w : Int) then mFold (mTileAt x w n) w 0 s else none
def mRows (x : List ByteArray) : Bool := match mFold (mRowAt x (List.getD x 0 eS).size) x.length 0 (false, false, false, false, false) with | some s => s.1 | none => false
def mLevel (x : List ByteArray) : Bool := mIn (len x) 3 12 && (mIn (slen (List.getD x 0 eS)) 4 20 && mRows x)
theorem tile_cases (t : Int) (h35 : t ≠ 35) (h49 : t ≠ 49) (h50 : t ≠ 50) (h51 : t ≠ 51) (h52 : t ≠ 52) : (igeq t 49 = false /\ ilss t 49 = true) \/ (igeq t 49 = true /\ ilss t 49 = false /\ ileq t 52 = false /\ igtr t 52 = true) := by
  simp only [igeq, ilss, ileq, igtr, decide_eq_true_eq, decide_eq_false_iff_not]
  omega
theorem ieql_ne {x y : Int} (h : x ≠ y) : ieql x y = false := by simpa [ieql] using h
theorem ineq_ne {x y : Int} (h : x ≠ y) : ineq x y = true := by simpa [ineq] using h
theorem lt0 : ieql 35 35 = true := by decide
theorem lt1 : ineq 35 35 = false := by decide
theorem lt2 : ieql 35 49 = false := by decide
theorem lt3 : ineq 35 49 = true := by decide
theorem lt4 : ieql 35 50 = false := by decide
theorem lt5 : ineq 35 50 = true := by decide
theorem lt6 : ieql 35 51 = false := by decide
theorem lt7 : ineq 35 51 = true := by decide
theorem lt8 : ieql 35 52 = false := by decide
theorem lt9 : ineq 35 52 = true := by decide
theorem lt10 : ieql 35 111 = false := by decide
theorem lt11 : ineq 35 111 = true := by decide
theorem lt12 : ieql 35 46 = false := by decide
theorem lt13 : ineq 35 46 = true := by decide
theorem lt14 : igeq 35 49 = false := by decide
theorem lt15 : ileq 35 49 = true := by decide
theorem lt16 : ilss 35 49 = true := by decide
theorem lt17 : igtr 35 49 = false := by decide
theorem lt18 : igeq 35 52 = false := by decide
theorem lt19 : ileq 35 52 = true := by decide
theorem lt20 : ilss 35 52 = true := by decide
theorem lt21 : igtr 35 52 = false := by decide
theorem lt22 : ieql 49 35 = false := by decide
theorem lt23 : ineq 49 35 = true := by decide
theorem lt24 : ieql 49 49 = true := by decide
theorem lt25 : ineq 49 49 = false := by decide
theorem lt26 : ieql 49 50 = false := by decide
theorem lt27 : ineq 49 50 = true := by decide
theorem lt28 : ieql 49 51 = false := by decide
theorem lt29 : ineq 49 51 = true := by decide
theorem lt30 : ieql 49 52 = false := by decide
theorem lt31 : ineq 49 52 = true := by decide
theorem lt32 : ieql 49 111 = false := by decide
theorem lt33 : ineq 49 111 = true := by decide
theorem lt34 : ieql 49 46 = false := by decide
theorem lt35 : ineq 49 46 = true := by decide
theorem lt36 : igeq 49 49 = true := by decide
theorem lt37 : ileq 49 49 = true := by decide
theorem lt38 : ilss 49 49 = false := by decide
theorem lt39 : igtr 49 49 = false := by decide
theorem lt40 : igeq 49 52 = false := by decide
theorem lt41 : ileq 49 52 = true := by decide
theorem lt42 : ilss 49 52 = true := by decide
theorem lt43 : igtr 49 52 = false := by decide
theorem lt44 : ieql 50 35 = false := by decide
theorem lt45 : ineq 50 35 = true := by decide
theorem lt46 : ieql 50 49 = false := by decide
theorem lt47 : ineq 50 49 = true := by decide
theorem lt48 : ieql 50 50 = true := by decide
theorem lt49 : ineq 50 50 = false := by decide
theorem lt50 : ieql 50 51 = false := by decide
theorem lt51 : ineq 50 51 = true := by decide
theorem lt52 : ieql 50 52 = false := by decide
theorem lt53 : ineq 50 52 = true := by decide
theorem lt54 : ieql 50 111 = false := by decide
theorem lt55 : ineq 50 111 = true := by decide
theorem lt56 : ieql 50 46 = false := by decide
theorem lt57 : ineq 50 46 = true := by decide
theorem lt58 : igeq 50 49 = true := by decide
theorem lt59 : ileq 50 49 = false := by decide
theorem lt60 : ilss 50 49 = false := by decide
theorem lt61 : igtr 50 49 = true := by decide
theorem lt62 : igeq 50 52 = false := by decide
theorem lt63 : ileq 50 52 = true := by decide
theorem lt64 : ilss 50 52 = true := by decide
theorem lt65 : igtr 50 52 = false := by decide
theorem lt66 : ieql 51 35 = false := by decide
theorem lt67 : ineq 51 35 = true := by decide
theorem lt68 : ieql 51 49 = false := by decide
theorem lt69 : ineq 51 49 = true := by decide
theorem lt70 : ieql 51 50 = false := by decide
theorem lt71 : ineq 51 50 = true := by decide
theorem lt72 : ieql 51 51 = true := by decide
theorem lt73 : ineq 51 51 = false := by decide
theorem lt74 : ieql 51 52 = false := by decide
theorem lt75 : ineq 51 52 = true := by decide
theorem lt76 : ieql 51 111 = false := by decide
theorem lt77 : ineq 51 111 = true := by decide
theorem lt78 : ieql 51 46 = false := by decide
theorem lt79 : ineq 51 46 = true := by decide
theorem lt80 : igeq 51 49 = true := by decide
theorem lt81 : ileq 51 49 = false := by decide
theorem lt82 : ilss 51 49 = false := by decide
theorem lt83 : igtr 51 49 = true := by decide
theorem lt84 : igeq 51 52 = false := by decide
theorem lt85 : ileq 51 52 = true := by decide
theorem lt86 : ilss 51 52 = true := by decide
theorem lt87 : igtr 51 52 = false := by decide
theorem lt88 : ieql 52 35 = false := by decide
theorem lt89 : ineq 52 35 = true := by decide
theorem lt90 : ieql 52 49 = false := by decide
theorem lt91 : ineq 52 49 = true := by decide
theorem lt92 : ieql 52 50 = false := by decide
theorem lt93 : ineq 52 50 = true := by decide
theorem lt94 : ieql 52 51 = false := by decide
theorem lt95 : ineq 52 51 = true := by decide
theorem lt96 : ieql 52 52 = true := by decide
theorem lt97 : ineq 52 52 = false := by decide
theorem lt98 : ieql 52 111 = false := by decide
theorem lt99 : ineq 52 111 = true := by decide
theorem lt100 : ieql 52 46 = false := by decide
theorem lt101 : ineq 52 46 = true := by decide
theorem lt102 : igeq 52 49 = true := by decide
theorem lt103 : ileq 52 49 = false := by decide
theorem lt104 : ilss 52 49 = false := by decide
theorem lt105 : igtr 52 49 = true := by decide
theorem lt106 : igeq 52 52 = true := by decide
theorem lt107 : ileq 52 52 = true := by decide
theorem lt108 : ilss 52 52 = false := by decide
theorem lt109 : igtr 52 52 = false := by decide
theorem lt110 : ieql 111 35 = false := by decide
theorem lt111 : ineq 111 35 = true := by decide
theorem lt112 : ieql 111 49 = false := by decide
theorem lt113 : ineq 111 49 = true := by decide
theorem lt114 : ieql 111 50 = false := by decide
theorem lt115 : ineq 111 50 = true := by decide
theorem lt116 : ieql 111 51 = false := by decide
theorem lt117 : ineq 111 51 = true := by decide
theorem lt118 : ieql 111 52 = false := by decide
theorem lt119 : ineq 111 52 = true := by decide
theorem lt120 : ieql 111 111 = true := by decide
theorem lt121 : ineq 111 111 = false := by decide
theorem lt122 : ieql 111 46 = false := by decide
theorem lt123 : ineq 111 46 = true := by decide
theorem lt124 : igeq 111 49 = true := by decide
theorem lt125 : ileq 111 49 = false := by decide
theorem lt126 : ilss 111 49 = false := by decide
theorem lt127 : igtr 111 49 = true := by decide
theorem lt128 : igeq 111 52 = true := by decide
theorem lt129 : ileq 111 52 = false := by decide
theorem lt130 : ilss 111 52 = false := by decide
theorem lt131 : igtr 111 52 = true := by decide
theorem lt132 : ieql 46 35 = false := by decide
theorem lt133 : ineq 46 35 = true := by decide
theorem lt134 : ieql 46 49 = false := by decide
theorem lt135 : ineq 46 49 = true := by decide
theorem lt136 : ieql 46 50 = false := by decide
theorem lt137 : ineq 46 50 = true := by decide
theorem lt138 : ieql 46 51 = false := by decide
theorem lt139 : ineq 46 51 = true := by decide
theorem lt140 : ieql 46 52 = false := by decide
theorem lt141 : ineq 46 52 = true := by decide
theorem lt142 : ieql 46 111 = false := by decide
theorem lt143 : ineq 46 111 = true := by decide
theorem lt144 : ieql 46 46 = true := by decide
theorem lt145 : ineq 46 46 = false := by decide
theorem lt146 : igeq 46 49 = false := by decide
theorem lt147 : ileq 46 49 = true := by decide
theorem lt148 : ilss 46 49 = true := by decide
theorem lt149 : igtr 46 49 = false := by decide
theorem lt150 : igeq 46 52 = false := by decide
theorem lt151 : ileq 46 52 = true := by decide
theorem lt152 : ilss 46 52 = true := by decide
theorem lt153 : igtr 46 52 = false := by decide
theorem lt154 : ieqd 0 0 = true := by decide
theorem lt155 : ieqd 0 1 = false := by decide
theorem lt156 : ieqd 0 2 = false := by decide
theorem lt157 : ieqd 0 3 = false := by decide
theorem lt158 : ieqd 0 4 = false := by decide
theorem lt159 : ieqd 1 0 = false := by decide
theorem lt160 : ieqd 1 1 = true := by decide
theorem lt161 : ieqd 1 2 = false := by decide
theorem lt162 : ieqd 1 3 = false := by decide
theorem lt163 : ieqd 1 4 = false := by decide
theorem lt164 : ieqd 2 0 = false := by decide
theorem lt165 : ieqd 2 1 = false := by decide
theorem lt166 : ieqd 2 2 = true := by decide
theorem lt167 : ieqd 2 3 = false := by decide
theorem lt168 : ieqd 2 4 = false := by decide
theorem lt169 : ieqd 3 0 = false := by decide
theorem lt170 : ieqd 3 1 = false := by decide
theorem lt171 : ieqd 3 2 = false := by decide
theorem lt172 : ieqd 3 3 = true := by decide
theorem lt173 : ieqd 3 4 = false := by decide
theorem lt174 : ieqd 4 0 = false := by decide
theorem lt175 : ieqd 4 1 = false := by decide
theorem lt176 : ieqd 4 2 = false := by decide
theorem lt177 : ieqd 4 3 = false := by decide
theorem lt178 : ieqd 4 4 = true := by decide
theorem wa49 : IntKind.wrap .u8 (49 - 48) = 1 := by decide
theorem wb49 : IntKind.wrap .u8 (49 - 49) = 0 := by decide
theorem wc49 (a b c d : Bool) : inb 0 (len [a, b, c, d]) = true := by decide +revert
theorem wa50 : IntKind.wrap .u8 (50 - 48) = 2 := by decide
theorem wb50 : IntKind.wrap .u8 (50 - 49) = 1 := by decide
theorem wc50 (a b c d : Bool) : inb 1 (len [a, b, c, d]) = true := by decide +revert
theorem wa51 : IntKind.wrap .u8 (51 - 48) = 3 := by decide
theorem wb51 : IntKind.wrap .u8 (51 - 49) = 2 := by decide
theorem wc51 (a b c d : Bool) : inb 2 (len [a, b, c, d]) = true := by decide +revert
theorem wa52 : IntKind.wrap .u8 (52 - 48) = 4 := by decide
theorem wb52 : IntKind.wrap .u8 (52 - 49) = 3 := by decide
theorem wc52 (a b c d : Bool) : inb 3 (len [a, b, c, d]) = true := by decide +revert
theorem lv_spec_in {k : Nat} (x : List ByteArray) (w n : Nat) (hn : n < x.length) (hw : x[n].size = w) (hl : w <= 20) (K : (Int × Bool × Int × (List ByteArray) × (List Bool) × Unit) -> Option Bool) (s : Seen) :
    loopW (spec_LevelOk_l2 (C k) K) ((w : Int), s.1, (n : Int), 0, x, [s.2.1, s.2.2.1, s.2.2.2.1, s.2.2.2.2], ()) = ofail (some false) (mFold (mTileAt x w n) w 0 s) (fun s' => K ((w : Int), s'.1, (n : Int), x, [s'.2.1, s'.2.2.1, s'.2.2.2.1, s'.2.2.2.2], ())) := by
  refine loop_opt0 w (fun m s => ((w : Int), s.1, (n : Int), (m : Int), x, [s.2.1, s.2.2.1, s.2.2.2.1, s.2.2.2.2], ())) (mTileAt x w n) (some false) (fun s' => K ((w : Int), s'.1, (n : Int), x, [s'.2.1, s'.2.2.1, s'.2.2.2.1, s'.2.2.2.2], ())) s _ rfl (fun m s hm ag => ?_) (fun s ag => ?_)
  · obtain ⟨op, a, b, c, d⟩ := s
    have e0 : inb (n : Int) (len x) = true := inb_nat n hn
    have e1 : inb (m : Int) (slen x[n]) = true := by rw [show slen x[n] = (w : Int) from congrArg _ hw]; exact inb_nat m hm
    have e2 : ilss (m : Int) (w : Int) = true := ilss_nat hm
    have e3 : w64 ((m : Int) + 1) = ((m + 1 : Nat) : Int) := w64_succ hm (Nat.le_trans hl (by decide))
    simp only [spec_LevelOk_l2, mTileAt, mEdge, Int.toNat_natCast, e0, e1, e2, e3, cond_true, ck_true, getD_lt hn, some_bif, bnd_some]
    generalize (bif ieql (n : Int) 0 then true else bif ieql (m : Int) 0 then true else bif ieql (n : Int) (w64 (len x - 1)) then true else ieql (m : Int) (w64 ((w : Int) - 1))) = edge
    generalize bytesIdx x[n] (m : Int) = t
    by_cases h35 : t = 35
    · subst h35
      simp only [spec_LevelOk_l2, mTile, some_bif, bnd_some, ck_true, cond_true, cond_false, lt0, lt1, lt2, lt3, lt4, lt5, lt6, lt7, lt8, lt9, lt10, lt11, lt12, lt13, lt14, lt15, lt16, lt17, lt18, lt19, lt20, lt21, lt22, lt23, lt24, lt25, lt26, lt27, lt28, lt29, lt30, lt31, lt32, lt33, lt34, lt35, lt36, lt37, lt38, lt39, lt40, lt41, lt42, lt43, lt44, lt45, lt46, lt47, lt48, lt49, lt50, lt51, lt52, lt53, lt54, lt55, lt56, lt57, lt58, lt59, lt60, lt61, lt62, lt63, lt64, lt65, lt66, lt67, lt68, lt69, lt70, lt71, lt72, lt73, lt74, lt75, lt76, lt77, lt78, lt79, lt80, lt81, lt82, lt83, lt84, lt85, lt86, lt87, lt88, lt89, lt90, lt91, lt92, lt93, lt94, lt95, lt96, lt97, lt98, lt99, lt100, lt101, lt102, lt103, lt104, lt105, lt106, lt107, lt108, lt109, lt110, lt111, lt112, lt113, lt114, lt115, lt116, lt117, lt118, lt119, lt120, lt121, lt122, lt123, lt124, lt125, lt126, lt127, lt128, lt129, lt130, lt131, lt132, lt133, lt134, lt135, lt136, lt137, lt138, lt139, lt140, lt141, lt142, lt143, lt144, lt145, lt146, lt147, lt148, lt149, lt150, lt151, lt152, lt153, lt154, lt155, lt156, lt157, lt158, lt159, lt160, lt161, lt162, lt163, lt164, lt165, lt166, lt167, lt168, lt169, lt170, lt171, lt172, lt173, lt174, lt175, lt176, lt177, lt178, wa49, wb49, wc49, wa50, wb50, wc50, wa51, wb51, wc51, wa52, wb52, wc52]
      first | (cases op <;> rfl) | (cases edge <;> cases op <;> rfl) | (cases edge <;> cases op <;> cases a <;> cases b <;> cases c <;> cases d <;> rfl)
    by_cases h49 : t = 49
    · subst h49
      simp only [spec_LevelOk_l2, mTile, some_bif, bnd_some, ck_true, cond_true, cond_false, lt0, lt1, lt2, lt3, lt4, lt5, lt6, lt7, lt8, lt9, lt10, lt11, lt12, lt13, lt14, lt15, lt16, lt17, lt18, lt19, lt20, lt21, lt22, lt23, lt24, lt25, lt26, lt27, lt28, lt29, lt30, lt31, lt32, lt33, lt34, lt35, lt36, lt37, lt38, lt39, lt40, lt41, lt42, lt43, lt44, lt45, lt46, lt47, lt48, lt49, lt50, lt51, lt52, lt53, lt54, lt55, lt56, lt57, lt58, lt59, lt60, lt61, lt62, lt63, lt64, lt65, lt66, lt67, lt68, lt69, lt70, lt71, lt72, lt73, lt74, lt75, lt76, lt77, lt78, lt79, lt80, lt81, lt82, lt83, lt84, lt85, lt86, lt87, lt88, lt89, lt90, lt91, lt92, lt93, lt94, lt95, lt96, lt97, lt98, lt99, lt100, lt101, lt102, lt103, lt104, lt105, lt106, lt107, lt108, lt109, lt110, lt111, lt112, lt113, lt114, lt115, lt116, lt117, lt118, lt119, lt120, lt121, lt122, lt123, lt124, lt125, lt126, lt127, lt128, lt129, lt130, lt131, lt132, lt133, lt134, lt135, lt136, lt137, lt138, lt139, lt140, lt141, lt142, lt143, lt144, lt145, lt146, lt147, lt148, lt149, lt150, lt151, lt152, lt153, lt154, lt155, lt156, lt157, lt158, lt159, lt160, lt161, lt162, lt163, lt164, lt165, lt166, lt167, lt168, lt169, lt170, lt171, lt172, lt173, lt174, lt175, lt176, lt177, lt178, wa49, wb49, wc49, wa50, wb50, wc50, wa51, wb51, wc51, wa52, wb52, wc52]
      first | (cases op <;> rfl) | (cases edge <;> cases op <;> rfl) | (cases edge <;> cases op <;> cases a <;> cases b <;> cases c <;> cases d <;> rfl)
    by_cases h50 : t = 50
    · subst h50
      simp only [spec_LevelOk_l2, mTile, some_bif, bnd_some, ck_true, cond_true, cond_false, lt0, lt1, lt2, lt3, lt4, lt5, lt6, lt7, lt8, lt9, lt10, lt11, lt12, lt13, lt14, lt15, lt16, lt17, lt18, lt19, lt20, lt21, lt22, lt23, lt24, lt25, lt26, lt27, lt28, lt29, lt30, lt31, lt32, lt33, lt34, lt35, lt36, lt37, lt38, lt39, lt40, lt41, lt42, lt43, lt44, lt45, lt46, lt47, lt48, lt49, lt50, lt51, lt52, lt53, lt54, lt55, lt56, lt57, lt58, lt59, lt60, lt61, lt62, lt63, lt64, lt65, lt66, lt67, lt68, lt69, lt70, lt71, lt72, lt73, lt74, lt75, lt76, lt77, lt78, lt79, lt80, lt81, lt82, lt83, lt84, lt85, lt86, lt87, lt88, lt89, lt90, lt91, lt92, lt93, lt94, lt95, lt96, lt97, lt98, lt99, lt100, lt101, lt102, lt103, lt104, lt105, lt106, lt107, lt108, lt109, lt110, lt111, lt112, lt113, lt114, lt115, lt116, lt117, lt118, lt119, lt120, lt121, lt122, lt123, lt124, lt125, lt126, lt127, lt128, lt129, lt130, lt131, lt132, lt133, lt134, lt135, lt136, lt137, lt138, lt139, lt140, lt141, lt142, lt143, lt144, lt145, lt146, lt147, lt148, lt149, lt150, lt151, lt152, lt153, lt154, lt155, lt156, lt157, lt158, lt159, lt160, lt161, lt162, lt163, lt164, lt165, lt166, lt167, lt168, lt169, lt170, lt171, lt172, lt173, lt174, lt175, lt176, lt177, lt178, wa49, wb49, wc49, wa50, wb50, wc50, wa51, wb51, wc51, wa52, wb52, wc52]
      first | (cases op <;> rfl) | (cases edge <;> cases op <;> rfl) | (cases edge <;> cases op <;> cases a <;> cases b <;> cases c <;> cases d <;> rfl)
    by_cases h51 : t = 51
    · subst h51
      simp only [spec_LevelOk_l2, mTile, some_bif, bnd_some, ck_true, cond_true, cond_false, lt0, lt1, lt2, lt3, lt4, lt5, lt6, lt7, lt8, lt9, lt10, lt11, lt12, lt13, lt14, lt15, lt16, lt17, lt18, lt19, lt20, lt21, lt22, lt23, lt24, lt25, lt26, lt27, lt28, lt29, lt30, lt31, lt32, lt33, lt34, lt35, lt36, lt37, lt38, lt39, lt40, lt41, lt42, lt43, lt44, lt45, lt46, lt47, lt48, lt49, lt50, lt51, lt52, lt53, lt54, lt55, lt56, lt57, lt58, lt59, lt60, lt61, lt62, lt63, lt64, lt65, lt66, lt67, lt68, lt69, lt70, lt71, lt72, lt73, lt74, lt75, lt76, lt77, lt78, lt79, lt80, lt81, lt82, lt83, lt84, lt85, lt86, lt87, lt88, lt89, lt90, lt91, lt92, lt93, lt94, lt95, lt96, lt97, lt98, lt99, lt100, lt101, lt102, lt103, lt104, lt105, lt106, lt107, lt108, lt109, lt110, lt111, lt112, lt113, lt114, lt115, lt116, lt117, lt118, lt119, lt120, lt121, lt122, lt123, lt124, lt125, lt126, lt127, lt128, lt129, lt130, lt131, lt132, lt133, lt134, lt135, lt136, lt137, lt138, lt139, lt140, lt141, lt142, lt143, lt144, lt145, lt146, lt147, lt148, lt149, lt150, lt151, lt152, lt153, lt154, lt155, lt156, lt157, lt158, lt159, lt160, lt161, lt162, lt163, lt164, lt165, lt166, lt167, lt168, lt169, lt170, lt171, lt172, lt173, lt174, lt175, lt176, lt177, lt178, wa49, wb49, wc49, wa50, wb50, wc50, wa51, wb51, wc51, wa52, wb52, wc52]
      first | (cases op <;> rfl) | (cases edge <;> cases op <;> rfl) | (cases edge <;> cases op <;> cases a <;> cases b <;> cases c <;> cases d <;> rfl)
    by_cases h52 : t = 52
    · subst h52
      simp only [spec_LevelOk_l2, mTile, some_bif, bnd_some, ck_true, cond_true, cond_false, lt0, lt1, lt2, lt3, lt4, lt5, lt6, lt7, lt8, lt9, lt10, lt11, lt12, lt13, lt14, lt15, lt16, lt17, lt18, lt19, lt20, lt21, lt22, lt23, lt24, lt25, lt26, lt27, lt28, lt29, lt30, lt31, lt32, lt33, lt34, lt35, lt36, lt37, lt38, lt39, lt40, lt41, lt42, lt43, lt44, lt45, lt46, lt47, lt48, lt49, lt50, lt51, lt52, lt53, lt54, lt55, lt56, lt57, lt58, lt59, lt60, lt61, lt62, lt63, lt64, lt65, lt66, lt67, lt68, lt69, lt70, lt71, lt72, lt73, lt74, lt75, lt76, lt77, lt78, lt79, lt80, lt81, lt82, lt83, lt84, lt85, lt86, lt87, lt88, lt89, lt90, lt91, lt92, lt93, lt94, lt95, lt96, lt97, lt98, lt99, lt100, lt101, lt102, lt103, lt104, lt105, lt106, lt107, lt108, lt109, lt110, lt111, lt112, lt113, lt114, lt115, lt116, lt117, lt118, lt119, lt120, lt121, lt122, lt123, lt124, lt125, lt126, lt127, lt128, lt129, lt130, lt131, lt132, lt133, lt134, lt135, lt136, lt137, lt138, lt139, lt140, lt141, lt142, lt143, lt144, lt145, lt146, lt147, lt148, lt149, lt150, lt151, lt152, lt153, lt154, lt155, lt156, lt157, lt158, lt159, lt160, lt161, lt162, lt163, lt164, lt165, lt166, lt167, lt168, lt169, lt170, lt171, lt172, lt173, lt174, lt175, lt176, lt177, lt178, wa49, wb49, wc49, wa50, wb50, wc50, wa51, wb51, wc51, wa52, wb52, wc52]
      first | (cases op <;> rfl) | (cases edge <;> cases op <;> rfl) | (cases edge <;> cases op <;> cases a <;> cases b <;> cases c <;> cases d <;> rfl)
    by_cases h111 : t = 111
    · subst h111
      simp only [spec_LevelOk_l2, mTile, some_bif, bnd_some, ck_true, cond_true, cond_false, lt0, lt1, lt2, lt3, lt4, lt5, lt6, lt7, lt8, lt9, lt10, lt11, lt12, lt13, lt14, lt15, lt16, lt17, lt18, lt19, lt20, lt21, lt22, lt23, lt24, lt25, lt26, lt27, lt28, lt29, lt30, lt31, lt32, lt33, lt34, lt35, lt36, lt37, lt38, lt39, lt40, lt41, lt42, lt43, lt44, lt45, lt46, lt47, lt48, lt49, lt50, lt51, lt52, lt53, lt54, lt55, lt56, lt57, lt58, lt59, lt60, lt61, lt62, lt63, lt64, lt65, lt66, lt67, lt68, lt69, lt70, lt71, lt72, lt73, lt74, lt75, lt76, lt77, lt78, lt79, lt80, lt81, lt82, lt83, lt84, lt85, lt86, lt87, lt88, lt89, lt90, lt91, lt92, lt93, lt94, lt95, lt96, lt97, lt98, lt99, lt100, lt101, lt102, lt103, lt104, lt105, lt106, lt107, lt108, lt109, lt110, lt111, lt112, lt113, lt114, lt115, lt116, lt117, lt118, lt119, lt120, lt121, lt122, lt123, lt124, lt125, lt126, lt127, lt128, lt129, lt130, lt131, lt132, lt133, lt134, lt135, lt136, lt137, lt138, lt139, lt140, lt141, lt142, lt143, lt144, lt145, lt146, lt147, lt148, lt149, lt150, lt151, lt152, lt153, lt154, lt155, lt156, lt157, lt158, lt159, lt160, lt161, lt162, lt163, lt164, lt165, lt166, lt167, lt168, lt169, lt170, lt171, lt172, lt173, lt174, lt175, lt176, lt177, lt178, wa49, wb49, wc49, wa50, wb50, wc50, wa51, wb51, wc51, wa52, wb52, wc52]
      first | (cases op <;> rfl) | (cases edge <;> cases op <;> rfl) | (cases edge <;> cases op <;> cases a <;> cases b <;> cases c <;> cases d <;> rfl)
    by_cases h46 : t = 46
    · subst h46
      simp only [spec_LevelOk_l2, mTile, some_bif, bnd_some, ck_true, cond_true, cond_false, lt0, lt1, lt2, lt3, lt4, lt5, lt6, lt7, lt8, lt9, lt10, lt11, lt12, lt13, lt14, lt15, lt16, lt17, lt18, lt19, lt20, lt21, lt22, lt23, lt24, lt25, lt26, lt27, lt28, lt29, lt30, lt31, lt32, lt33, lt34, lt35, lt36, lt37, lt38, lt39, lt40, lt41, lt42, lt43, lt44, lt45, lt46, lt47, lt48, lt49, lt50, lt51, lt52, lt53, lt54, lt55, lt56, lt57, lt58, lt59, lt60, lt61, lt62, lt63, lt64, lt65, lt66, lt67, lt68, lt69, lt70, lt71, lt72, lt73, lt74, lt75, lt76, lt77, lt78, lt79, lt80, lt81, lt82, lt83, lt84, lt85, lt86, lt87, lt88, lt89, lt90, lt91, lt92, lt93, lt94, lt95, lt96, lt97, lt98, lt99, lt100, lt101, lt102, lt103, lt104, lt105, lt106, lt107, lt108, lt109, lt110, lt111, lt112, lt113, lt114, lt115, lt116, lt117, lt118, lt119, lt120, lt121, lt122, lt123, lt124, lt125, lt126, lt127, lt128, lt129, lt130, lt131, lt132, lt133, lt134, lt135, lt136, lt137, lt138, lt139, lt140, lt141, lt142, lt143, lt144, lt145, lt146, lt147, lt148, lt149, lt150, lt151, lt152, lt153, lt154, lt155, lt156, lt157, lt158, lt159, lt160, lt161, lt162, lt163, lt164, lt165, lt166, lt167, lt168, lt169, lt170, lt171, lt172, lt173, lt174, lt175, lt176, lt177, lt178, wa49, wb49, wc49, wa50, wb50, wc50, wa51, wb51, wc51, wa52, wb52, wc52]
      first | (cases op <;> rfl) | (cases edge <;> cases op <;> rfl) | (cases edge <;> cases op <;> cases a <;> cases b <;> cases c <;> cases d <;> rfl)
    simp only [mTile, ieql_ne h35, ieql_ne h49, ieql_ne h50, ieql_ne h51, ieql_ne h52, ieql_ne h111, ieql_ne h46, ineq_ne h35, ineq_ne h111, ineq_ne h46, some_bif, bnd_some, ck_true, cond_true, cond_false]
    rcases tile_cases t h35 h49 h50 h51 h52 with ⟨q1, q2⟩ | ⟨q1, q2, q3, q4⟩
    · simp only [q1, q2, cond_true, cond_false]
      cases edge <;> rfl
    · simp only [q1, q2, q3, q4, cond_true, cond_false]
      cases edge <;> rfl
  · have e2 : ilss (w : Int) (w : Int) = false := ilss_end _
    simp only [spec_LevelOk_l2, e2, cond_false]
set_option maxHeartbeats 8000000 in
theorem lv_impl_in {k : Nat} (x : List ByteArray) (w n : Nat) (hn : n < x.length) (hw : x[n].size = w) (hl : w <= 20) (K : (Int × Bool × (List ByteArray) × Int × Int × (List ByteArray) × Bool × Bool × Bool × Bool × Bool × Unit) -> Option Bool) (s : Seen) :
    loopW (impl_LevelOk_l2 (C k) K) ((w : Int), s.1, (n : Int), x[n], 0, x, len x, (n : Int), x, false, s.2.1, s.2.2.1, s.2.2.2.1, s.2.2.2.2, ()) = ofail (some false) (mFold (mTileAt x w n) w 0 s) (fun s' => K ((w : Int), s'.1, x, len x, (n : Int), x, false, s'.2.1, s'.2.2.1, s'.2.2.2.1, s'.2.2.2.2, ())) := by
  refine loop_opt0 w (fun m s => ((w : Int), s.1, (n : Int), x[n], (m : Int), x, len x, (n : Int), x, false, s.2.1, s.2.2.1, s.2.2.2.1, s.2.2.2.2, ())) (mTileAt x w n) (some false) (fun s' => K ((w : Int), s'.1, x, len x, (n : Int), x, false, s'.2.1, s'.2.2.1, s'.2.2.2.1, s'.2.2.2.2, ())) s _ rfl (fun m s hm ag => ?_) (fun s ag => ?_)
  · obtain ⟨op, a, b, c, d⟩ := s
    have e1 : inb (m : Int) (slen x[n]) = true := by rw [show slen x[n] = (w : Int) from congrArg _ hw]; exact inb_nat m hm
    have e2 : ilss (m : Int) (w : Int) = true := ilss_nat hm
    have e3 : w64 ((m : Int) + 1) = ((m + 1 : Nat) : Int) := w64_succ hm (Nat.le_trans hl (by decide))
    have e4 : (bif ieql (n : Int) 0 then true else bif ieql (n : Int) (w64 (len x - 1)) then true else bif ieql (m : Int) 0 then true else ieql (m : Int) (w64 ((w : Int) - 1))) = mEdge (len x) (w : Int) (n : Int) (m : Int) := by
      unfold mEdge
      cases ieql (n : Int) 0 <;> cases ieql (n : Int) (w64 (len x - 1)) <;> cases ieql (m : Int) 0 <;> cases ieql (m : Int) (w64 ((w : Int) - 1)) <;> rfl
    unfold impl_LevelOk_l2
    simp only [mTileAt, Int.toNat_natCast, e1, e2, e3, cond_true, ck_true, getD_lt hn, some_bif, bnd_some, e4]
    generalize mEdge (len x) (w : Int) (n : Int) (m : Int) = edge
    generalize bytesIdx x[n] (m : Int) = t
    by_cases h35 : t = 35
    · subst h35
      simp only [impl_LevelOk_l2, mTile, some_bif, bnd_some, ck_true, cond_true, cond_false, lt0, lt1, lt2, lt3, lt4, lt5, lt6, lt7, lt8, lt9, lt10, lt11, lt12, lt13, lt14, lt15, lt16, lt17, lt18, lt19, lt20, lt21, lt22, lt23, lt24, lt25, lt26, lt27, lt28, lt29, lt30, lt31, lt32, lt33, lt34, lt35, lt36, lt37, lt38, lt39, lt40, lt41, lt42, lt43, lt44, lt45, lt46, lt47, lt48, lt49, lt50, lt51, lt52, lt53, lt54, lt55, lt56, lt57, lt58, lt59, lt60, lt61, lt62, lt63, lt64, lt65, lt66, lt67, lt68, lt69, lt70, lt71, lt72, lt73, lt74, lt75, lt76, lt77, lt78, lt79, lt80, lt81, lt82, lt83, lt84, lt85, lt86, lt87, lt88, lt89, lt90, lt91, lt92, lt93, lt94, lt95, lt96, lt97, lt98, lt99, lt100, lt101, lt102, lt103, lt104, lt105, lt106, lt107, lt108, lt109, lt110, lt111, lt112, lt113, lt114, lt115, lt116, lt117, lt118, lt119, lt120, lt121, lt122, lt123, lt124, lt125, lt126, lt127, lt128, lt129, lt130, lt131, lt132, lt133, lt134, lt135, lt136, lt137, lt138, lt139, lt140, lt141, lt142, lt143, lt144, lt145, lt146, lt147, lt148, lt149, lt150, lt151, lt152, lt153, lt154, lt155, lt156, lt157, lt158, lt159, lt160, lt161, lt162, lt163, lt164, lt165, lt166, lt167, lt168, lt169, lt170, lt171, lt172, lt173, lt174, lt175, lt176, lt177, lt178, wa49, wb49, wc49, wa50, wb50, wc50, wa51, wb51, wc51, wa52, wb52, wc52]
      first | (cases op <;> rfl) | (cases edge <;> cases op <;> rfl) | (cases edge <;> cases op <;> cases a <;> cases b <;> cases c <;> cases d <;> rfl)
    by_cases h49 : t = 49
    · subst h49
      simp only [impl_LevelOk_l2, mTile, some_bif, bnd_some, ck_true, cond_true, cond_false, lt0, lt1, lt2, lt3, lt4, lt5, lt6, lt7, lt8, lt9, lt10, lt11, lt12, lt13, lt14, lt15, lt16, lt17, lt18, lt19, lt20, lt21, lt22, lt23, lt24, lt25, lt26, lt27, lt28, lt29, lt30, lt31, lt32, lt33, lt34, lt35, lt36, lt37, lt38, lt39, lt40, lt41, lt42, lt43, lt44, lt45, lt46, lt47, lt48, lt49, lt50, lt51, lt52, lt53, lt54, lt55, lt56, lt57, lt58, lt59, lt60, lt61, lt62, lt63, lt64, lt65, lt66, lt67, lt68, lt69, lt70, lt71, lt72, lt73, lt74, lt75, lt76, lt77, lt78, lt79, lt80, lt81, lt82, lt83, lt84, lt85, lt86, lt87, lt88, lt89, lt90, lt91, lt92, lt93, lt94, lt95, lt96, lt97, lt98, lt99, lt100, lt101, lt102, lt103, lt104, lt105, lt106, lt107, lt108, lt109, lt110, lt111, lt112, lt113, lt114, lt115, lt116, lt117, lt118, lt119, lt120, lt121, lt122, lt123, lt124, lt125, lt126, lt127, lt128, lt129, lt130, lt131, lt132, lt133, lt134, lt135, lt136, lt137, lt138, lt139, lt140, lt141, lt142, lt143, lt144, lt145, lt146, lt147, lt148, lt149, lt150, lt151, lt152, lt153, lt154, lt155, lt156, lt157, lt158, lt159, lt160, lt161, lt162, lt163, lt164, lt165, lt166, lt167, lt168, lt169, lt170, lt171, lt172, lt173, lt174, lt175, lt176, lt177, lt178, wa49, wb49, wc49, wa50, wb50, wc50, wa51, wb51, wc51, wa52, wb52, wc52]
      first | (cases op <;> rfl) | (cases edge <;> cases op <;> rfl) | (cases edge <;> cases op <;> cases a <;> cases b <;> cases c <;> cases d <;> rfl)
    by_cases h50 : t = 50
    · subst h50
      simp only [impl_LevelOk_l2, mTile, some_bif, bnd_some, ck_true, cond_true, cond_false, lt0, lt1, lt2, lt3, lt4, lt5, lt6, lt7, lt8, lt9, lt10, lt11, lt12, lt13, lt14, lt15, lt16, lt17, lt18, lt19, lt20, lt21, lt22, lt23, lt24, lt25, lt26, lt27, lt28, lt29, lt30, lt31, lt32, lt33, lt34, lt35, lt36, lt37, lt38, lt39, lt40, lt41, lt42, lt43, lt44, lt45, lt46, lt47, lt48, lt49, lt50, lt51, lt52, lt53, lt54, lt55, lt56, lt57, lt58, lt59, lt60, lt61, lt62, lt63, lt64, lt65, lt66, lt67, lt68, lt69, lt70, lt71, lt72, lt73, lt74, lt75, lt76, lt77, lt78, lt79, lt80, lt81, lt82, lt83, lt84, lt85, lt86, lt87, lt88, lt89, lt90, lt91, lt92, lt93, lt94, lt95, lt96, lt97, lt98, lt99, lt100, lt101, lt102, lt103, lt104, lt105, lt106, lt107, lt108, lt109, lt110, lt111, lt112, lt113, lt114, lt115, lt116, lt117, lt118, lt119, lt120, lt121, lt122, lt123, lt124, lt125, lt126, lt127, lt128, lt129, lt130, lt131, lt132, lt133, lt134, lt135, lt136, lt137, lt138, lt139, lt140, lt141, lt142, lt143, lt144, lt145, lt146, lt147, lt148, lt149, lt150, lt151, lt152, lt153, lt154, lt155, lt156, lt157, lt158, lt159, lt160, lt161, lt162, lt163, lt164, lt165, lt166, lt167, lt168, lt169, lt170, lt171, lt172, lt173, lt174, lt175, lt176, lt177, lt178, wa49, wb49, wc49, wa50, wb50, wc50, wa51, wb51, wc51, wa52, wb52, wc52]
      first | (cases op <;> rfl) | (cases edge <;> cases op <;> rfl) | (cases edge <;> cases op <;> cases a <;> cases b <;> cases c <;> cases d <;> rfl)
    by_cases h51 : t = 51
    · subst h51
      simp only [impl_LevelOk_l2, mTile, some_bif, bnd_some, ck_true, cond_true, cond_false, lt0, lt1, lt2, lt3, lt4, lt5, lt6, lt7, lt8, lt9, lt10, lt11, lt12, lt13, lt14, lt15, lt16, lt17, lt18, lt19, lt20, lt21, lt22, lt23, lt24, lt25, lt26, lt27, lt28, lt29, lt30, lt31, lt32, lt33, lt34, lt35, lt36, lt37, lt38, lt39, lt40, lt41, lt42, lt43, lt44, lt45, lt46, lt47, lt48, lt49, lt50, lt51, lt52, lt53, lt54, lt55, lt56, lt57, lt58, lt59, lt60, lt61, lt62, lt63, lt64, lt65, lt66, lt67, lt68, lt69, lt70, lt71, lt72, lt73, lt74, lt75, lt76, lt77, lt78, lt79, lt80, lt81, lt82, lt83, lt84, lt85, lt86, lt87, lt88, lt89, lt90, lt91, lt92, lt93, lt94, lt95, lt96, lt97, lt98, lt99, lt100, lt101, lt102, lt103, lt104, lt105, lt106, lt107, lt108, lt109, lt110, lt111, lt112, lt113, lt114, lt115, lt116, lt117, lt118, lt119, lt120, lt121, lt122, lt123, lt124, lt125, lt126, lt127, lt128, lt129, lt130, lt131, lt132, lt133, lt134, lt135, lt136, lt137, lt138, lt139, lt140, lt141, lt142, lt143, lt144, lt145, lt146, lt147, lt148, lt149, lt150, lt151, lt152, lt153, lt154, lt155, lt156, lt157, lt158, lt159, lt160, lt161, lt162, lt163, lt164, lt165, lt166, lt167, lt168, lt169, lt170, lt171, lt172, lt173, lt174, lt175, lt176, lt177, lt178, wa49, wb49, wc49, wa50, wb50, wc50, wa51, wb51, wc51, wa52, wb52, wc52]
      first | (cases op <;> rfl) | (cases edge <;> cases op <;> rfl) | (cases edge <;> cases op <;> cases a <;> cases b <;> cases c <;> cases d <;> rfl)
    by_cases h52 : t = 52
    · subst h52
      simp only [impl_LevelOk_l2, mTile, some_bif, bnd_some, ck_true, cond_true, cond_false, lt0, lt1, lt2, lt3, lt4, lt5, lt6, lt7, lt8, lt9, lt10, lt11, lt12, lt13, lt14, lt15, lt16, lt17, lt18, lt19, lt20, lt21, lt22, lt23, lt24, lt25, lt26, lt27, lt28, lt29, lt30, lt31, lt32, lt33, lt34, lt35, lt36, lt37, lt38, lt39, lt40, lt41, lt42, lt43, lt44, lt45, lt46, lt47, lt48, lt49, lt50, lt51, lt52, lt53, lt54, lt55, lt56, lt57, lt58, lt59, lt60, lt61, lt62, lt63, lt64, lt65, lt66, lt67, lt68, lt69, lt70, lt71, lt72, lt73, lt74, lt75, lt76, lt77, lt78, lt79, lt80, lt81, lt82, lt83, lt84, lt85, lt86, lt87, lt88, lt89, lt90, lt91, lt92, lt93, lt94, lt95, lt96, lt97, lt98, lt99, lt100, lt101, lt102, lt103, lt104, lt105, lt106, lt107, lt108, lt109, lt110, lt111, lt112, lt113, lt114, lt115, lt116, lt117, lt118, lt119, lt120, lt121, lt122, lt123, lt124, lt125, lt126, lt127, lt128, lt129, lt130, lt131, lt132, lt133, lt134, lt135, lt136, lt137, lt138, lt139, lt140, lt141, lt142, lt143, lt144, lt145, lt146, lt147, lt148, lt149, lt150, lt151, lt152, lt153, lt154, lt155, lt156, lt157, lt158, lt159, lt160, lt161, lt162, lt163, lt164, lt165, lt166, lt167, lt168, lt169, lt170, lt171, lt172, lt173, lt174, lt175, lt176, lt177, lt178, wa49, wb49, wc49, wa50, wb50, wc50, wa51, wb51, wc51, wa52, wb52, wc52]
      first | (cases op <;> rfl) | (cases edge <;> cases op <;> rfl) | (cases edge <;> cases op <;> cases a <;> cases b <;> cases c <;> cases d <;> rfl)
    by_cases h111 : t = 111
    · subst h111
      simp only [impl_LevelOk_l2, mTile, some_bif, bnd_some, ck_true, cond_true, cond_false, lt0, lt1, lt2, lt3, lt4, lt5, lt6, lt7, lt8, lt9, lt10, lt11, lt12, lt13, lt14, lt15, lt16, lt17, lt18, lt19, lt20, lt21, lt22, lt23, lt24, lt25, lt26, lt27, lt28, lt29, lt30, lt31, lt32, lt33, lt34, lt35, lt36, lt37, lt38, lt39, lt40, lt41, lt42, lt43, lt44, lt45, lt46, lt47, lt48, lt49, lt50, lt51, lt52, lt53, lt54, lt55, lt56, lt57, lt58, lt59, lt60, lt61, lt62, lt63, lt64, lt65, lt66, lt67, lt68, lt69, lt70, lt71, lt72, lt73, lt74, lt75, lt76, lt77, lt78, lt79, lt80, lt81, lt82, lt83, lt84, lt85, lt86, lt87, lt88, lt89, lt90, lt91, lt92, lt93, lt94, lt95, lt96, lt97, lt98, lt99, lt100, lt101, lt102, lt103, lt104, lt105, lt106, lt107, lt108, lt109, lt110, lt111, lt112, lt113, lt114, lt115, lt116, lt117, lt118, lt119, lt120, lt121, lt122, lt123, lt124, lt125, lt126, lt127, lt128, lt129, lt130, lt131, lt132, lt133, lt134, lt135, lt136, lt137, lt138, lt139, lt140, lt141, lt142, lt143, lt144, lt145, lt146, lt147, lt148, lt149, lt150, lt151, lt152, lt153, lt154, lt155, lt156, lt157, lt158, lt159, lt160, lt161, lt162, lt163, lt164, lt165, lt166, lt167, lt168, lt169, lt170, lt171, lt172, lt173, lt174, lt175, lt176, lt177, lt178, wa49, wb49, wc49, wa50, wb50, wc50, wa51, wb51, wc51, wa52, wb52, wc52]
      first | (cases op <;> rfl) | (cases edge <;> cases op <;> rfl) | (cases edge <;> cases op <;> cases a <;> cases b <;> cases c <;> cases d <;> rfl)
    by_cases h46 : t = 46
    · subst h46
      simp only [impl_LevelOk_l2, mTile, some_bif, bnd_some, ck_true, cond_true, cond_false, lt0, lt1, lt2, lt3, lt4, lt5, lt6, lt7, lt8, lt9, lt10, lt11, lt12, lt13, lt14, lt15, lt16, lt17, lt18, lt19, lt20, lt21, lt22, lt23, lt24, lt25, lt26, lt27, lt28, lt29, lt30, lt31, lt32, lt33, lt34, lt35, lt36, lt37, lt38, lt39, lt40, lt41, lt42, lt43, lt44, lt45, lt46, lt47, lt48, lt49, lt50, lt51, lt52, lt53, lt54, lt55, lt56, lt57, lt58, lt59, lt60, lt61, lt62, lt63, lt64, lt65, lt66, lt67, lt68, lt69, lt70, lt71, lt72, lt73, lt74, lt75, lt76, lt77, lt78, lt79, lt80, lt81, lt82, lt83, lt84, lt85, lt86, lt87, lt88, lt89, lt90, lt91, lt92, lt93, lt94, lt95, lt96, lt97, lt98, lt99, lt100, lt101, lt102, lt103, lt104, lt105, lt106, lt107, lt108, lt109, lt110, lt111, lt112, lt113, lt114, lt115, lt116, lt117, lt118, lt119, lt120, lt121, lt122, lt123, lt124, lt125, lt126, lt127, lt128, lt129, lt130, lt131, lt132, lt133, lt134, lt135, lt136, lt137, lt138, lt139, lt140, lt141, lt142, lt143, lt144, lt145, lt146, lt147, lt148, lt149, lt150, lt151, lt152, lt153, lt154, lt155, lt156, lt157, lt158, lt159, lt160, lt161, lt162, lt163, lt164, lt165, lt166, lt167, lt168, lt169, lt170, lt171, lt172, lt173, lt174, lt175, lt176, lt177, lt178, wa49, wb49, wc49, wa50, wb50, wc50, wa51, wb51, wc51, wa52, wb52, wc52]
      first | (cases op <;> rfl) | (cases edge <;> cases op <;> rfl) | (cases edge <;> cases op <;> cases a <;> cases b <;> cases c <;> cases d <;> rfl)
    simp only [mTile, ieql_ne h35, ieql_ne h49, ieql_ne h50, ieql_ne h51, ieql_ne h52, ieql_ne h111, ieql_ne h46, ineq_ne h35, ineq_ne h111, ineq_ne h46, some_bif, bnd_some, ck_true, cond_true, cond_false]
    rcases tile_cases t h35 h49 h50 h51 h52 with ⟨q1, q2⟩ | ⟨q1, q2, q3, q4⟩
    · simp only [q1, q2, cond_true, cond_false]
      cases edge <;> rfl
    · simp only [q1, q2, q3, q4, cond_true, cond_false]
      cases edge <;> rfl
  · have e2 : ilss (w : Int) (w : Int) = false := ilss_end _
    unfold impl_LevelOk_l2
    simp only [e2, cond_false]
theorem L_spec_LevelOk {k : Nat} (hk : 2 <= k) (x : List ByteArray) : c_spec_LevelOk (C k) x = some (mLevel x) := by
  obtain ⟨k, rfl⟩ := pk (by omega)
  rw [u_spec_LevelOk]
  simp only [spec_LevelOk, L_spec_l01In (k := k) (by omega), bnd_some, mLevel]
  cases hN : mIn (len x) 3 12 with
  | false => rfl
  | true =>
    rw [mIn_iff] at hN
    simp only [len] at hN
    have h0 : 0 < x.length := by omega
    have e0 : inb 0 (len x) = true := inb_nat 0 h0
    simp only [Bool.not_true, cond_false, e0, ck_true, Bool.true_and]
    cases hW : mIn (slen (List.getD x 0 eS)) 4 20 with
    | false =>
      rw [Bool.false_and]
      refine loopW_stop (fun ag => ?_)
      have e2 : ilss 0 (len x) = true := ilss_nat h0
      have ez : Int.toNat 0 = 0 := rfl
      simp only [spec_LevelOk_l0, ez, e0, e2, cond_true, ck_true, ineq_not, some_bif, bnd_some, L_spec_l01In (k := k) (by omega), hW]
      cases ieql (slen (List.getD x 0 eS)) (slen (List.getD x 0 eS)) <;> rfl
    | true =>
      have hW1 := hW
      rw [mIn_iff] at hW1
      simp only [slen] at hW1
      rw [Bool.true_and]
      refine (loop_opt0 x.length (fun n s => ((((List.getD x 0 eS).size : Nat) : Int), s.1, (n : Int), x, [s.2.1, s.2.2.1, s.2.2.2.1, s.2.2.2.2], ())) (mRowAt x (List.getD x 0 eS).size) (some false) (fun s => some s.1) (false, false, false, false, false) _ rfl (fun n s hn ag => ?_) (fun s ag => ?_)).trans ?_
      · have e0 : inb (n : Int) (len x) = true := inb_nat n hn
        have e2 : ilss (n : Int) (len x) = true := ilss_nat hn
        have hm : x.length <= maxLen := Nat.le_trans (show x.length <= 12 by omega) (by decide)
        have hW2 : mIn (((List.getD x 0 eS).size : Nat) : Int) 4 20 = true := hW
        simp only [spec_LevelOk_l0, mRowAt, Int.toNat_natCast, e0, e2, cond_true, ck_true, getD_lt hn, w64_succ hn hm, ineq_not, some_bif, bnd_some, L_spec_l01In (k := k) (by omega), hW2]
        cases hs : ieql (slen x[n]) (((List.getD x 0 eS).size : Nat) : Int) with
        | false => rfl
        | true =>
          have hs1 : x[n].size = (List.getD x 0 eS).size := by
            have : slen x[n] = (((List.getD x 0 eS).size : Nat) : Int) := by simpa [ieql] using hs
            simp only [slen] at this
            omega
          simp only [Bool.not_true, cond_false, cond_true]
          rw [lv_spec_in x _ n hn hs1 (by omega)]
          cases mFold (mTileAt x (List.getD x 0 eS).size n) (List.getD x 0 eS).size 0 s with
          | none => rfl
          | some s' => simp only [ofail, w64_succ hn hm]
      · have e2 : ilss (x.length : Int) (len x) = false := ilss_end _
        simp only [spec_LevelOk_l0, e2, cond_false]
      · unfold mRows
        cases mFold (mRowAt x (List.getD x 0 eS).size) x.length 0 (false, false, false, false, false) <;> rfl
theorem L_impl_LevelOk {k : Nat} (hk : 2 <= k) (x : List ByteArray) : c_impl_LevelOk (C k) x = some (mLevel x) := by
  obtain ⟨k, rfl⟩ := pk (by omega)
  rw [u_impl_LevelOk]
  simp only [impl_LevelOk, some_bif, bnd_some, out_in, mLevel]
  cases hN : mIn (len x) 3 12 with
  | false => rfl
  | true =>
    rw [mIn_iff] at hN
    simp only [len] at hN
    have h0 : 0 < x.length := by omega
    have e0 : inb 0 (len x) = true := inb_nat 0 h0
    have ez : Int.toNat 0 = 0 := rfl
    simp only [Bool.not_true, cond_false, e0, ck_true, Bool.true_and, ez]
    cases hW : mIn (slen (List.getD x 0 eS)) 4 20 with
    | false => rfl
    | true =>
      have hW1 := hW
      rw [mIn_iff] at hW1
      simp only [slen] at hW1
      simp only [Bool.not_true, cond_false, Bool.true_and]
      refine (loop_opt0 x.length (fun n s => ((((List.getD x 0 eS).size : Nat) : Int), s.1, x, len x, (n : Int), x, false, s.2.1, s.2.2.1, s.2.2.2.1, s.2.2.2.2, ())) (mRowAt x (List.getD x 0 eS).size) (some false) (fun s => some s.1) (false, false, false, false, false) _ rfl (fun n s hn ag => ?_) (fun s ag => ?_)).trans ?_
      · have e0 : inb (n : Int) (len x) = true := inb_nat n hn
        have e2 : ilss (n : Int) (len x) = true := ilss_nat hn
        have hm : x.length <= maxLen := Nat.le_trans (show x.length <= 12 by omega) (by decide)
        simp only [impl_LevelOk_l0, mRowAt, Int.toNat_natCast, e0, e2, cond_true, ck_true, getD_lt hn, w64_succ hn hm, ineq_not, some_bif, bnd_some]
        cases hs : ieql (slen x[n]) (((List.getD x 0 eS).size : Nat) : Int) with
        | false => rfl
        | true =>
          have hs1 : x[n].size = (List.getD x 0 eS).size := by
            have : slen x[n] = (((List.getD x 0 eS).size : Nat) : Int) := by simpa [ieql] using hs
            simp only [slen] at this
            omega
          simp only [Bool.not_true, cond_false, cond_true]
          rw [lv_impl_in x _ n hn hs1 (by omega)]
          cases mFold (mTileAt x (List.getD x 0 eS).size n) (List.getD x 0 eS).size 0 s with
          | none => rfl
          | some s' => simp only [ofail, w64_succ hn hm]
      · have e2 : ilss (x.length : Int) (len x) = false := ilss_end _
        simp only [impl_LevelOk_l0, e2, cond_false]
      · unfold mRows
        cases mFold (mRowAt x (List.getD x 0 eS).size) x.length 0 (false, false, false, false, false) <;> rfl
theorem mLevel_facts {x : List ByteArray} (h : mLevel x = true) : 3 <= x.length /\ x.length <= 12 /\ 4 <= (List.getD x 0 eS).size /\ (List.getD x 0 eS).size <= 20 /\ ∀ n (hn : n < x.length), x[n].size = (List.getD x 0 eS).size := by
  unfold mLevel at h
  rw [Bool.and_eq_true, Bool.and_eq_true, mIn_iff, mIn_iff] at h
  obtain ⟨h1, h2, h3⟩ := h
  simp only [len, slen] at h1 h2
  refine ⟨by omega, by omega, by omega, by omega, fun n hn => ?_⟩
  unfold mRows at h3
  split at h3
  · rename_i s hs
    obtain ⟨s1, s2, h4⟩ := mFold_at hs n (by omega) (by omega)
    unfold mRowAt at h4
    rw [getD_lt hn] at h4
    cases hq : ieql (slen x[n]) (((List.getD x 0 eS).size : Nat) : Int) with
    | false => rw [hq] at h4; cases h4
    | true =>
      have : slen x[n] = (((List.getD x 0 eS).size : Nat) : Int) := by simpa [ieql] using hq
      simp only [slen] at this
      omega
  · cases h3
end Go.Proofs.YtaflceohlijekaaGreat.Ev
namespace Go.Proofs.YtaflceohlijekaaGreat.Ev
def cf (x : List ByteArray) (r c : Nat) : Bool := decide (r < x.length) && (decide (c < (List.getD x r eS).size) && ineq (bytesIdx (List.getD x r eS) (c : Int)) 35)
def mSolidN (x : List ByteArray) (p q s : Nat) : Bool := !(List.range ((q + s - 1) / 16 + 1 - q / 16)).all (fun i => (List.range ((p + s - 1) / 16 + 1 - p / 16)).all (fun j => cf x (q / 16 + i) (p / 16 + j)))
def mSolid (x : List ByteArray) (px py s : Int) : Bool := bif mIn px 0 1000 && mIn py 0 1000 then mSolidN x px.toNat py.toNat s.toNat else true
theorem td_nat (n : Nat) : Int.tdiv (n : Int) 16 = ((n / 16 : Nat) : Int) := rfl
theorem sol_end (p s : Nat) (hp : p <= 1000) (h1 : 1 <= s) (h2 : s <= 16) : w64 (Int.tdiv (w64 ((w64 ((p : Int) + (s : Int))) - 1)) 16) = (((p + s - 1) / 16 : Nat) : Int) := by
  rw [w64_id (x := (p : Int) + (s : Int)) (by omega) (by omega), w64_id (x := (p : Int) + (s : Int) - 1) (by omega) (by omega)]
  rw [show (p : Int) + (s : Int) - 1 = ((p + s - 1 : Nat) : Int) by omega, td_nat]
  exact w64_id (by omega) (by omega)
theorem sol_beg (p : Nat) (hp : p <= 1000) : w64 (Int.tdiv (p : Int) 16) = ((p / 16 : Nat) : Int) := by
  rw [td_nat]
  exact w64_id (by omega) (by omega)
theorem ileq_nat {a b : Nat} (h : a <= b) : ileq (a : Int) (b : Int) = true := by simpa [ileq] using h
theorem ileq_nat_no {a b : Nat} (h : b < a) : ileq (a : Int) (b : Int) = false := by
  simp only [ileq, decide_eq_false_iff_not]
  omega
theorem igeq_nat {a b : Nat} (h : b <= a) : igeq (a : Int) (b : Int) = true := by
  simp only [igeq, decide_eq_true_eq]
  omega
theorem igeq_nat_no {a b : Nat} (h : a < b) : igeq (a : Int) (b : Int) = false := by
  simp only [igeq, decide_eq_false_iff_not]
  omega
theorem w64_nsucc (n : Nat) (h : n <= 1000000) : w64 ((n : Int) + 1) = ((n + 1 : Nat) : Int) := w64_succ (Nat.lt_succ_self n) (Nat.le_trans (Nat.succ_le_succ h) (by decide))
theorem sol_spec_in {k : Nat} (x : List ByteArray) (p q s r : Nat) (hp : p <= 1000) (h1 : 1 <= s) (h2 : s <= 16) (K : (Int × Int × Int × Int × (List ByteArray) × Unit) -> Option Bool) :
    loopW (spec_l02Solid_l2 (C k) K) ((p : Int), (q : Int), (s : Int), (r : Int), ((p / 16 : Nat) : Int), x, ()) = bif (List.range ((p + s - 1) / 16 + 1 - p / 16)).all (fun j => cf x r (p / 16 + j)) then K ((p : Int), (q : Int), (s : Int), (r : Int), x, ()) else some true := by
  refine loop_allN ((p + s - 1) / 16 + 1 - p / 16) (fun j => ((p : Int), (q : Int), (s : Int), (r : Int), ((p / 16 + j : Nat) : Int), x, ())) (fun j => cf x r (p / 16 + j)) true (K ((p : Int), (q : Int), (s : Int), (r : Int), x, ())) (fun j hj ag => ?_) (fun ag => ?_)
  · have e1 : ileq ((p / 16 + j : Nat) : Int) (((p + s - 1) / 16 : Nat) : Int) = true := ileq_nat (by omega)
    simp only [spec_l02Solid_l2, sol_end p s hp h1 h2, e1, cond_true, Int.toNat_natCast, w64_nsucc (p / 16 + j) (by omega), cf]
    by_cases hr : r < x.length
    · have e2 : inb (r : Int) (len x) = true := inb_nat r hr
      have e3 : igeq (r : Int) (len x) = false := igeq_nat_no hr
      simp only [e2, e3, cond_false, ck_true, hr, decide_true, Bool.true_and]
      by_cases hc : p / 16 + j < (List.getD x r eS).size
      · have e4 : inb ((p / 16 + j : Nat) : Int) (slen (List.getD x r eS)) = true := inb_nat _ hc
        have e5 : igeq ((p / 16 + j : Nat) : Int) (slen (List.getD x r eS)) = false := igeq_nat_no hc
        simp only [e4, e5, cond_false, ck_true, hc, decide_true, Bool.true_and, bnd_some, ineq_not]
        cases ieql (bytesIdx (List.getD x r eS) ((p / 16 + j : Nat) : Int)) 35 <;> rfl
      · have e5 : igeq ((p / 16 + j : Nat) : Int) (slen (List.getD x r eS)) = true := igeq_nat (by omega)
        simp only [e5, cond_true, hc, decide_false, Bool.false_and, bnd_some, cond_false]
    · have e3 : igeq (r : Int) (len x) = true := igeq_nat (by omega)
      simp only [e3, cond_true, hr, decide_false, Bool.false_and, bnd_some, cond_false]
  · have e1 : ileq ((p / 16 + ((p + s - 1) / 16 + 1 - p / 16) : Nat) : Int) (((p + s - 1) / 16 : Nat) : Int) = false := ileq_nat_no (by omega)
    simp only [spec_l02Solid_l2, sol_end p s hp h1 h2, e1, cond_false]
theorem L_spec_l02Solid {k : Nat} (hk : 2 <= k) (x : List ByteArray) (px py sz : Int) (h1 : 1 <= sz) (h2 : sz <= 16) : c_spec_l02Solid (C k) (x, px, py, sz) = some (mSolid x px py sz) := by
  obtain ⟨k, rfl⟩ := pk (by omega)
  rw [u_spec_l02Solid]
  simp only [spec_l02Solid, L_spec_l01In (k := k) (by omega), bnd_some, some_bif, mSolid]
  cases hx : mIn px 0 1000 with
  | false => rfl
  | true =>
    cases hy : mIn py 0 1000 with
    | false => rfl
    | true =>
      rw [mIn_iff] at hx hy
      obtain ⟨p, rfl⟩ := Int.eq_ofNat_of_zero_le hx.1
      obtain ⟨q, rfl⟩ := Int.eq_ofNat_of_zero_le hy.1
      obtain ⟨s, rfl⟩ := Int.eq_ofNat_of_zero_le (show 0 <= sz by omega)
      simp only [Bool.not_true, cond_false, Bool.and_self, cond_true, Int.toNat_natCast]
      rw [sol_beg q (by omega)]
      refine (loop_allN ((q + s - 1) / 16 + 1 - q / 16) (fun i => ((p : Int), (q : Int), (s : Int), ((q / 16 + i : Nat) : Int), x, ())) (fun i => (List.range ((p + s - 1) / 16 + 1 - p / 16)).all (fun j => cf x (q / 16 + i) (p / 16 + j))) true (some false) (fun i hi ag => ?_) (fun ag => ?_)).trans ?_
      · have e1 : ileq ((q / 16 + i : Nat) : Int) (((q + s - 1) / 16 : Nat) : Int) = true := ileq_nat (by omega)
        simp only [spec_l02Solid_l0, sol_end q s (by omega) (by omega) (by omega), e1, cond_true, sol_beg p (by omega)]
        rw [sol_spec_in x p q s (q / 16 + i) (by omega) (by omega) (by omega)]
        simp only [w64_nsucc (q / 16 + i) (by omega)]
        rfl
      · have e1 : ileq ((q / 16 + ((q + s - 1) / 16 + 1 - q / 16) : Nat) : Int) (((q + s - 1) / 16 : Nat) : Int) = false := ileq_nat_no (by omega)
        simp only [spec_l02Solid_l0, sol_end q s (by omega) (by omega) (by omega), e1, cond_false]
      · rw [some_bif]
        unfold mSolidN
        cases (List.range ((q + s - 1) / 16 + 1 - q / 16)).all (fun i => (List.range ((p + s - 1) / 16 + 1 - p / 16)).all (fun j => cf x (q / 16 + i) (p / 16 + j))) <;> rfl
theorem sol_impl_in {k : Nat} (x : List ByteArray) (p q s r : Nat) (hp : p <= 1000) (h1 : 1 <= s) (h2 : s <= 16) (hr : r < x.length) (hw : p + s <= 16 * (List.getD x r eS).size) (K : (Int × Int × Int × Int × (List ByteArray) × Unit) -> Option Bool) :
    loopW (impl_solid_l2 (C k) K) ((p : Int), (q : Int), (s : Int), (r : Int), ((p / 16 : Nat) : Int), x, ()) = bif (List.range ((p + s - 1) / 16 + 1 - p / 16)).all (fun j => cf x r (p / 16 + j)) then K ((p : Int), (q : Int), (s : Int), (r : Int), x, ()) else some true := by
  refine loop_allN ((p + s - 1) / 16 + 1 - p / 16) (fun j => ((p : Int), (q : Int), (s : Int), (r : Int), ((p / 16 + j : Nat) : Int), x, ())) (fun j => cf x r (p / 16 + j)) true (K ((p : Int), (q : Int), (s : Int), (r : Int), x, ())) (fun j hj ag => ?_) (fun ag => ?_)
  · have e1 : ileq ((p / 16 + j : Nat) : Int) (((p + s - 1) / 16 : Nat) : Int) = true := ileq_nat (by omega)
    have hc : p / 16 + j < (List.getD x r eS).size := by omega
    have e2 : inb (r : Int) (len x) = true := inb_nat r hr
    have e4 : inb ((p / 16 + j : Nat) : Int) (slen (List.getD x r eS)) = true := inb_nat _ hc
    simp only [impl_solid_l2, sol_end p s hp h1 h2, e1, e2, e4, ck_true, cond_true, Int.toNat_natCast, w64_nsucc (p / 16 + j) (by omega), cf, hr, hc, decide_true, Bool.true_and, ineq_not]
    cases ieql (bytesIdx (List.getD x r eS) ((p / 16 + j : Nat) : Int)) 35 <;> rfl
  · have e1 : ileq ((p / 16 + ((p + s - 1) / 16 + 1 - p / 16) : Nat) : Int) (((p + s - 1) / 16 : Nat) : Int) = false := ileq_nat_no (by omega)
    simp only [impl_solid_l2, sol_end p s hp h1 h2, e1, cond_false]
theorem sol_out {x : List ByteArray} (hx : mLevel x = true) {p q s : Nat} (h1 : 1 <= s) (h : 16 * (List.getD x 0 eS).size < p + s \/ 16 * x.length < q + s) : mSolidN x p q s = true := by
  obtain ⟨f1, f2, f3, f4, f5⟩ := mLevel_facts hx
  unfold mSolidN
  rw [Bool.not_eq_true', <- Bool.not_eq_true, List.all_eq_true]
  intro ha
  rcases h with h | h
  · have hb := ha 0 (by rw [List.mem_range]; omega)
    rw [List.all_eq_true] at hb
    have hc := hb ((p + s - 1) / 16 - p / 16) (by rw [List.mem_range]; omega)
    unfold cf at hc
    rw [Bool.and_eq_true, Bool.and_eq_true, decide_eq_true_eq, decide_eq_true_eq] at hc
    obtain ⟨c1, c2, _⟩ := hc
    rw [getD_lt c1, f5 _ c1] at c2
    omega
  · have hb := ha ((q + s - 1) / 16 - q / 16) (by rw [List.mem_range]; omega)
    rw [List.all_eq_true] at hb
    have hc := hb 0 (by rw [List.mem_range]; omega)
    unfold cf at hc
    rw [Bool.and_eq_true, decide_eq_true_eq] at hc
    omega
theorem mSolid_facts {x : List ByteArray} (hx : mLevel x = true) {px py sz : Int} (h1 : 1 <= sz) (h : mSolid x px py sz = false) : 0 <= px /\ px <= 320 /\ 0 <= py /\ py <= 320 := by
  obtain ⟨f1, f2, f3, f4, f5⟩ := mLevel_facts hx
  unfold mSolid at h
  cases hin : mIn px 0 1000 && mIn py 0 1000 with
  | false => rw [hin] at h; cases h
  | true =>
    rw [hin, cond_true] at h
    rw [Bool.and_eq_true, mIn_iff, mIn_iff] at hin
    by_cases ho : 16 * (List.getD x 0 eS).size < px.toNat + sz.toNat \/ 16 * x.length < py.toNat + sz.toNat
    · rw [sol_out hx (by omega) ho] at h
      cases h
    · omega
theorem L_impl_solid {k : Nat} (hk : 1 <= k) (x : List ByteArray) (hx : mLevel x = true) (px py sz : Int) (h1 : 1 <= sz) (h2 : sz <= 16) : c_impl_solid (C k) (x, px, py, sz) = some (mSolid x px py sz) := by
  obtain ⟨k, rfl⟩ := pk (by omega)
  rw [u_impl_solid]
  obtain ⟨f1, f2, f3, f4, f5⟩ := mLevel_facts hx
  have e0 : inb 0 (len x) = true := inb_nat 0 (by omega)
  have ez : Int.toNat 0 = 0 := rfl
  obtain ⟨s, rfl⟩ := Int.eq_ofNat_of_zero_le (show 0 <= sz by omega)
  have a1 : w64 (w64 (slen (List.getD x 0 eS) * 16) - (s : Int)) = slen (List.getD x 0 eS) * 16 - (s : Int) := by
    simp only [slen]
    rw [w64_id (x := ((List.getD x 0 eS).size : Int) * 16) (by omega) (by omega)]
    exact w64_id (by omega) (by omega)
  have a2 : w64 (w64 (len x * 16) - (s : Int)) = len x * 16 - (s : Int) := by
    simp only [len]
    rw [w64_id (x := (x.length : Int) * 16) (by omega) (by omega)]
    exact w64_id (by omega) (by omega)
  simp only [impl_solid, e0, ck_true, ez, some_bif, bnd_some, a1, a2]
  cases ho : (bif ilss px 0 then true else bif ilss py 0 then true else bif igtr px (slen (List.getD x 0 eS) * 16 - (s : Int)) then true else igtr py (len x * 16 - (s : Int))) with
  | true =>
    rw [cond_true]
    unfold mSolid
    cases hin : mIn px 0 1000 && mIn py 0 1000 with
    | false => rfl
    | true =>
      rw [cond_true]
      rw [Bool.and_eq_true, mIn_iff, mIn_iff] at hin
      rw [sol_out hx (by omega)]
      have g1 : ilss px 0 = false := ilss_pos (by omega)
      have g2 : ilss py 0 = false := ilss_pos (by omega)
      rw [g1, g2, cond_false, cond_false] at ho
      by_cases hq : px > slen (List.getD x 0 eS) * 16 - (s : Int)
      · simp only [slen] at hq
        left
        omega
      · have g3 : igtr px (slen (List.getD x 0 eS) * 16 - (s : Int)) = false := by simp only [igtr, decide_eq_false_iff_not]; exact hq
        rw [g3, cond_false] at ho
        simp only [igtr, decide_eq_true_eq, len] at ho
        right
        omega
  | false =>
    rw [cond_false]
    have g1 : ¬ px < 0 := by
      intro hq
      rw [ilss_neg hq] at ho
      cases ho
    rw [ilss_pos g1, cond_false] at ho
    have g2 : ¬ py < 0 := by
      intro hq
      rw [ilss_neg hq] at ho
      cases ho
    rw [ilss_pos g2, cond_false] at ho
    cases hq : igtr px (slen (List.getD x 0 eS) * 16 - (s : Int)) with
    | true => rw [hq] at ho; cases ho
    | false =>
      rw [hq, cond_false] at ho
      simp only [igtr, decide_eq_false_iff_not, slen, len] at hq ho
      obtain ⟨p, rfl⟩ := Int.eq_ofNat_of_zero_le (show 0 <= px by omega)
      obtain ⟨q, rfl⟩ := Int.eq_ofNat_of_zero_le (show 0 <= py by omega)
      have hin : (mIn (p : Int) 0 1000 && mIn (q : Int) 0 1000) = true := by
        rw [Bool.and_eq_true, mIn_iff, mIn_iff]
        omega
      simp only [mSolid, hin, cond_true, Int.toNat_natCast]
      rw [sol_beg q (by omega)]
      refine (loop_allN ((q + s - 1) / 16 + 1 - q / 16) (fun i => ((p : Int), (q : Int), (s : Int), ((q / 16 + i : Nat) : Int), x, ())) (fun i => (List.range ((p + s - 1) / 16 + 1 - p / 16)).all (fun j => cf x (q / 16 + i) (p / 16 + j))) true (some false) (fun i hi ag => ?_) (fun ag => ?_)).trans ?_
      · have e1 : ileq ((q / 16 + i : Nat) : Int) (((q + s - 1) / 16 : Nat) : Int) = true := ileq_nat (by omega)
        have hr : q / 16 + i < x.length := by omega
        simp only [impl_solid_l0, sol_end q s (by omega) (by omega) (by omega), e1, cond_true, sol_beg p (by omega)]
        rw [sol_impl_in x p q s (q / 16 + i) (by omega) (by omega) (by omega) hr (by rw [getD_lt hr, f5 _ hr]; omega)]
        simp only [w64_nsucc (q / 16 + i) (by omega)]
        rfl
      · have e1 : ileq ((q / 16 + ((q + s - 1) / 16 + 1 - q / 16) : Nat) : Int) (((q + s - 1) / 16 : Nat) : Int) = false := ileq_nat_no (by omega)
        simp only [impl_solid_l0, sol_end q s (by omega) (by omega) (by omega), e1, cond_false]
      · rw [some_bif]
        unfold mSolidN
        cases (List.range ((q + s - 1) / 16 + 1 - q / 16)).all (fun i => (List.range ((p + s - 1) / 16 + 1 - p / 16)).all (fun j => cf x (q / 16 + i) (p / 16 + j))) <;> rfl
theorem L_impl_SolidAt {k : Nat} (hk : 3 <= k) (x : List ByteArray) (hx : mLevel x = true) (px py sz : Int) (h1 : 1 <= sz) (h2 : sz <= 16) : c_impl_SolidAt (C k) (x, px, py, sz) = some (mSolid x px py sz) := by
  obtain ⟨k, rfl⟩ := pk (by omega)
  rw [u_impl_SolidAt]
  have g1 : ilss sz 1 = false := by simp only [ilss, decide_eq_false_iff_not]; omega
  have g2 : igtr sz 16 = false := by simp only [igtr, decide_eq_false_iff_not]; omega
  simp only [impl_SolidAt, L_impl_LevelOk (k := k) (by omega), L_impl_solid (k := k) (by omega) x hx px py sz h1 h2, bnd_some, some_bif, g1, g2, hx, cond_false, Bool.not_true]
end Go.Proofs.YtaflceohlijekaaGreat.Ev
namespace Go.Proofs.YtaflceohlijekaaGreat.Ev
def sFold {R S : Type} (f : Nat -> S -> Sum R S) : Nat -> Nat -> S -> Sum R S
  | 0, _, s => .inr s
  | d + 1, n, s => match f n s with | .inl r => .inl r | .inr s' => sFold f d (n + 1) s'
def oSum {R S : Type} (o : Sum R S) (K : S -> Option R) : Option R := match o with | .inl r => some r | .inr s => K s
theorem oSum_inr {R S : Type} (s : S) (K : S -> Option R) : oSum (.inr s) K = K s := rfl
theorem oSum_inl {R S : Type} (r : R) (K : S -> Option R) : oSum (.inl r) K = some r := rfl
section
variable {V R S : Type} {body : V -> (V -> Option R) -> Option R}
theorem loop_sumA (N : Nat) (st : Nat -> S -> V) (I : Nat -> S -> Prop) (f : Nat -> S -> Sum R S) (K : S -> Option R)
    (h : ∀ n s, n < N -> I n s -> (∀ ag, body (st n s) ag = oSum (f n s) (fun s' => ag (st (n + 1) s'))) /\ ∀ s', f n s = .inr s' -> I (n + 1) s')
    (he : ∀ s, I N s -> ∀ ag, body (st N s) ag = K s) : ∀ (d n : Nat) (s : S), n + d = N -> I n s -> loopW body (st n s) = oSum (sFold f d n s) K /\ ∀ s', sFold f d n s = .inr s' -> I N s'
  | 0, n, s, hn, hi => by
    have : n = N := by omega
    subst this
    exact ⟨loopW_stop (he s hi), fun s' e => by cases e; exact hi⟩
  | d + 1, n, s, hn, hi => by
    obtain ⟨h1, h2⟩ := h n s (by omega) hi
    simp only [sFold]
    cases hf : f n s with
    | inl r =>
      rw [hf] at h1
      exact ⟨loopW_stop h1, fun s' e => by cases e⟩
    | inr s' =>
      rw [hf] at h1
      rw [loopW_step h1]
      exact loop_sumA N st I f K h he d (n + 1) s' (by omega) (h2 s' hf)
theorem loop_sumI (N : Nat) (st : Nat -> S -> V) (I : Nat -> S -> Prop) (f : Nat -> S -> Sum R S) (K : S -> Option R) (s : S) (hi : I 0 s) (v : V) (hv : v = st 0 s)
    (h : ∀ n s, n < N -> I n s -> (∀ ag, body (st n s) ag = oSum (f n s) (fun s' => ag (st (n + 1) s'))) /\ ∀ s', f n s = .inr s' -> I (n + 1) s')
    (he : ∀ s, I N s -> ∀ ag, body (st N s) ag = K s) : loopW body v = oSum (sFold f N 0 s) K /\ ∀ s', sFold f N 0 s = .inr s' -> I N s' := by
  subst hv
  exact loop_sumA N st I f K h he N 0 s (by omega) hi
theorem loop_sum (N : Nat) (st : Nat -> S -> V) (f : Nat -> S -> Sum R S) (K : S -> Option R) (s : S) (v : V) (hv : v = st 0 s)
    (h : ∀ n s, n < N -> ∀ ag, body (st n s) ag = oSum (f n s) (fun s' => ag (st (n + 1) s'))) (he : ∀ s, ∀ ag, body (st N s) ag = K s) : loopW body v = oSum (sFold f N 0 s) K :=
  (loop_sumI N st (fun _ _ => True) f K s trivial v hv (fun n s hn _ => ⟨h n s hn, fun _ _ => trivial⟩) (fun s _ => he s)).1
end
theorem bytesIdx_range (s : ByteArray) (j : Int) : 0 <= bytesIdx s j /\ bytesIdx s j <= 255 := by
  unfold bytesIdx
  split
  · rename_i h
    have := (s[j.toNat]'h).toNat_lt
    constructor <;> omega
  · exact ⟨by decide, by decide⟩
def mStartTile (x : List ByteArray) (who : Int) (r c : Nat) (s : Int × Int) : Sum (Int × Int) (Int × Int) :=
  bif ieql (bytesIdx (List.getD x r eS) (c : Int)) (49 + who) then .inl (16 * (c : Int) + 2, 16 * (r : Int) + 2) else
  bif ineq (bytesIdx (List.getD x r eS) (c : Int)) 35 && ilss s.1 0 then .inr (16 * (c : Int) + 2, 16 * (r : Int) + 2) else .inr s
def mStartRow (x : List ByteArray) (who : Int) (r : Nat) (s : Int × Int) : Sum (Int × Int) (Int × Int) := sFold (mStartTile x who r) (List.getD x r eS).size 0 s
def mStart (x : List ByteArray) (who : Int) : Int × Int := bif mLevel x && mIn who 0 3 then (match sFold (mStartRow x who) x.length 0 (-1, -1) with | .inl p => p | .inr p => p) else (-1, -1)
theorem st16 (c : Nat) (hc : c <= 1000) (d : Int) (h0 : 0 <= d) (h1 : d <= 16) : w64 (w64 (16 * (c : Int)) + d) = 16 * (c : Int) + d := by
  rw [w64_id (x := 16 * (c : Int)) (by omega) (by omega)]
  exact w64_id (by omega) (by omega)
theorem st16' (c : Nat) (hc : c <= 1000) (d : Int) (h0 : 0 <= d) (h1 : d <= 16) : w64 (w64 ((c : Int) * 16) + d) = 16 * (c : Int) + d := by
  rw [w64_id (x := (c : Int) * 16) (by omega) (by omega), Int.mul_comm]
  exact w64_id (by omega) (by omega)
theorem start_spec_in {k : Nat} (x : List ByteArray) (who : Int) (r : Nat) (hr : r < x.length) (hr1 : r <= 12) (hw : (List.getD x r eS).size <= 20) (h0 : 0 <= who) (h3 : who <= 3) (K : (Int × Int × Int × Int × (List ByteArray) × Unit) -> Option (Int × Int)) (s : Int × Int) :
    loopW (spec_StartOf_l2 (C k) K) (who, s.1, s.2, (r : Int), 0, x, ()) = oSum (mStartRow x who r s) (fun s' => K (who, s'.1, s'.2, (r : Int), x, ())) := by
  have e0 : inb (r : Int) (len x) = true := inb_nat r hr
  refine loop_sum _ (fun c s => (who, s.1, s.2, (r : Int), (c : Int), x, ())) (mStartTile x who r) (fun s' => K (who, s'.1, s'.2, (r : Int), x, ())) s _ rfl (fun c s hc ag => ?_) (fun s ag => ?_)
  · have e1 : inb (c : Int) (slen (List.getD x r eS)) = true := inb_nat c hc
    have e2 : ilss (c : Int) (slen (List.getD x r eS)) = true := ilss_nat hc
    have hb := bytesIdx_range (List.getD x r eS) (c : Int)
    simp only [spec_StartOf_l2, mStartTile, Int.toNat_natCast, e0, e1, e2, cond_true, ck_true, some_bif, bnd_some, w64_nsucc c (by omega), st16 c (by omega) 2 (by decide) (by decide), st16 r (by omega) 2 (by decide) (by decide)]
    generalize bytesIdx (List.getD x r eS) (c : Int) = t at *
    have et : ieql (w64 (w64 t - 49)) who = ieql t (49 + who) := by
      rw [w64_id (x := t) (by omega) (by omega), w64_id (x := t - 49) (by omega) (by omega)]
      simp only [ieql]
      rw [Bool.eq_iff_iff]
      simp only [beq_iff_eq]
      omega
    simp only [et]
    cases ieql t (49 + who) <;> cases ineq t 35 <;> cases ilss s.1 0 <;> rfl
  · have e2 : ilss ((List.getD x r eS).size : Int) (slen (List.getD x r eS)) = false := ilss_end _
    simp only [spec_StartOf_l2, Int.toNat_natCast, e0, e2, ck_true, cond_false]
theorem L_spec_StartOf {k : Nat} (hk : 3 <= k) (x : List ByteArray) (who : Int) : c_spec_StartOf (C k) (x, who) = some (mStart x who) := by
  obtain ⟨k, rfl⟩ := pk (by omega)
  rw [u_spec_StartOf]
  simp only [spec_StartOf, L_spec_LevelOk (k := k) (by omega), L_spec_l01In (k := k) (by omega), bnd_some, some_bif, mStart]
  cases hl : mLevel x with
  | false => rfl
  | true =>
    cases hw : mIn who 0 3 with
    | false => rfl
    | true =>
      obtain ⟨f1, f2, f3, f4, f5⟩ := mLevel_facts hl
      rw [mIn_iff] at hw
      simp only [Bool.not_true, cond_false, Bool.and_self, cond_true]
      refine (loop_sum x.length (fun r s => (who, s.1, s.2, (r : Int), x, ())) (mStartRow x who) (fun s => some s) (-1, -1) _ rfl (fun r s hr ag => ?_) (fun s ag => ?_)).trans ?_
      · have e2 : ilss (r : Int) (len x) = true := ilss_nat hr
        simp only [spec_StartOf_l0, e2, cond_true]
        rw [start_spec_in x who r hr (by omega) (by rw [getD_lt hr, f5 _ hr]; omega) hw.1 hw.2]
        simp only [w64_nsucc r (by omega)]
      · have e2 : ilss (x.length : Int) (len x) = false := ilss_end _
        simp only [spec_StartOf_l0, e2, cond_false]
      · cases sFold (mStartRow x who) x.length 0 (-1, -1) <;> rfl
theorem wb8 (who : Int) (h0 : 0 <= who) (h3 : who <= 3) : IntKind.wrap .u8 (w64 (49 + who)) = 49 + who := by
  have : who = 0 \/ who = 1 \/ who = 2 \/ who = 3 := by omega
  rcases this with rfl | rfl | rfl | rfl <;> decide
theorem start_impl_in {k : Nat} (x : List ByteArray) (who : Int) (r : Nat) (hr1 : r <= 12) (hw : (List.getD x r eS).size <= 20) (h0 : 0 <= who) (h3 : who <= 3) (K : (Int × Int × Int × (List ByteArray) × Int × Int × Unit) -> Option (Int × Int)) (s : Int × Int) :
    loopW (impl_StartOf_l2 (C k) K) (who, s.1, s.2, (r : Int), List.getD x r eS, 0, x, len x, (r : Int), ()) = oSum (mStartRow x who r s) (fun s' => K (who, s'.1, s'.2, x, len x, (r : Int), ())) := by
  refine loop_sum _ (fun c s => (who, s.1, s.2, (r : Int), List.getD x r eS, (c : Int), x, len x, (r : Int), ())) (mStartTile x who r) (fun s' => K (who, s'.1, s'.2, x, len x, (r : Int), ())) s _ rfl (fun c s hc ag => ?_) (fun s ag => ?_)
  · have e1 : inb (c : Int) (slen (List.getD x r eS)) = true := inb_nat c hc
    have e2 : ilss (c : Int) (slen (List.getD x r eS)) = true := ilss_nat hc
    simp only [impl_StartOf_l2, mStartTile, e1, e2, cond_true, ck_true, some_bif, bnd_some, w64_nsucc c (by omega), st16' c (by omega) 2 (by decide) (by decide), st16' r (by omega) 2 (by decide) (by decide), wb8 who h0 h3]
    generalize bytesIdx (List.getD x r eS) (c : Int) = t
    cases ieql t (49 + who) <;> cases ineq t 35 <;> cases ilss s.1 0 <;> rfl
  · have e2 : ilss ((List.getD x r eS).size : Int) (slen (List.getD x r eS)) = false := ilss_end _
    simp only [impl_StartOf_l2, e2, cond_false]
theorem L_impl_StartOf {k : Nat} (hk : 3 <= k) (x : List ByteArray) (who : Int) : c_impl_StartOf (C k) (x, who) = some (mStart x who) := by
  obtain ⟨k, rfl⟩ := pk (by omega)
  rw [u_impl_StartOf]
  simp only [impl_StartOf, L_impl_LevelOk (k := k) (by omega), bnd_some, some_bif, mStart]
  cases hw : mIn who 0 3 with
  | false =>
    have hq : ilss who 0 = true \/ igeq who 4 = true := by
      simp only [ilss, igeq, decide_eq_true_eq]
      rw [<- Bool.not_eq_true, mIn_iff] at hw
      omega
    rcases hq with hq | hq <;> rw [hq] <;> cases ilss who 0 <;> cases mLevel x <;> rfl
  | true =>
    rw [mIn_iff] at hw
    have q1 : ilss who 0 = false := ilss_pos (by omega)
    have q2 : igeq who 4 = false := by simp only [igeq, decide_eq_false_iff_not]; omega
    simp only [q1, q2, cond_false]
    cases hl : mLevel x with
    | false => rfl
    | true =>
      obtain ⟨f1, f2, f3, f4, f5⟩ := mLevel_facts hl
      simp only [Bool.not_true, cond_false, Bool.and_self, cond_true]
      refine (loop_sum x.length (fun r s => (who, s.1, s.2, x, len x, (r : Int), ())) (mStartRow x who) (fun s => some s) (-1, -1) _ rfl (fun r s hr ag => ?_) (fun s ag => ?_)).trans ?_
      · have e0 : inb (r : Int) (len x) = true := inb_nat r hr
        have e2 : ilss (r : Int) (len x) = true := ilss_nat hr
        simp only [impl_StartOf_l0, Int.toNat_natCast, e0, e2, ck_true, cond_true]
        rw [start_impl_in x who r (by omega) (by rw [getD_lt hr, f5 _ hr]; omega) hw.1 hw.2]
        simp only [w64_nsucc r (by omega)]
      · have e2 : ilss (x.length : Int) (len x) = false := ilss_end _
        simp only [impl_StartOf_l0, e2, cond_false]
      · cases sFold (mStartRow x who) x.length 0 (-1, -1) <;> rfl
def mFresh (x : List ByteArray) (who : Int) : TBody := (0, who, (mStart x who).1, (mStart x who).2, 0, 0, 1, 3, 0)
theorem L_spec_l02Fresh {k : Nat} (hk : 4 <= k) (x : List ByteArray) (who : Int) : c_spec_l02Fresh (C k) (x, who) = some (mFresh x who) := by
  obtain ⟨k, rfl⟩ := pk (by omega)
  rw [u_spec_l02Fresh]
  simp only [spec_l02Fresh, L_spec_StartOf (k := k) (by omega), bnd_some, mFresh]
theorem L_impl_freshPlayer {k : Nat} (hk : 4 <= k) (x : List ByteArray) (who : Int) : c_impl_freshPlayer (C k) (x, who) = some (mFresh x who) := by
  obtain ⟨k, rfl⟩ := pk (by omega)
  rw [u_impl_freshPlayer]
  simp only [impl_freshPlayer, L_impl_StartOf (k := k) (by omega), bnd_some, mFresh]
def mSpotTile (x : List ByteArray) (r c : Nat) (s : List (List Int)) : Sum (List (List Int)) (List (List Int)) :=
  bif ieql (bytesIdx (List.getD x r eS) (c : Int)) 111 then .inr (s ++ [[16 * (c : Int) + 4, 16 * (r : Int) + 4]]) else .inr s
def mSpotRow (x : List ByteArray) (r : Nat) (s : List (List Int)) : Sum (List (List Int)) (List (List Int)) := sFold (mSpotTile x r) (List.getD x r eS).size 0 s
def mSpots (x : List ByteArray) : List (List Int) := bif mLevel x then (match sFold (mSpotRow x) x.length 0 [] with | .inl p => p | .inr p => p) else []
def SpotI (B n : Nat) (s : List (List Int)) : Prop := s.length <= B + n /\ ∀ p ∈ s, p.length = 2
theorem room_le {α : Type} (xs ys : List α) (m : Nat) (h : xs.length + ys.length <= m) : room xs ys m = true := by
  simp only [room, decide_eq_true_eq]
  exact h
theorem spot_spec_in {k : Nat} (x : List ByteArray) (r : Nat) (hr : r < x.length) (hr1 : r <= 12) (hw : (List.getD x r eS).size <= 20) (B : Nat) (hB : B <= 1000) (K : (Int × (List ByteArray) × (List (List Int)) × Unit) -> Option (List (List Int))) (s : List (List Int)) (hs : SpotI B 0 s) :
    loopW (spec_SpotsOf_l2 (C k) K) ((r : Int), 0, x, s, ()) = oSum (mSpotRow x r s) (fun s' => K ((r : Int), x, s', ())) /\ ∀ s', mSpotRow x r s = .inr s' -> SpotI B (List.getD x r eS).size s' := by
  have e0 : inb (r : Int) (len x) = true := inb_nat r hr
  refine loop_sumI _ (fun c s => ((r : Int), (c : Int), x, s, ())) (SpotI B) (mSpotTile x r) (fun s' => K ((r : Int), x, s', ())) s hs _ rfl (fun c s hc hi => ⟨fun ag => ?_, fun s' he => ?_⟩) (fun s _ ag => ?_)
  · have e1 : inb (c : Int) (slen (List.getD x r eS)) = true := inb_nat c hc
    have e2 : ilss (c : Int) (slen (List.getD x r eS)) = true := ilss_nat hc
    simp only [spec_SpotsOf_l2, mSpotTile, Int.toNat_natCast, e0, e1, e2, cond_true, ck_true, w64_nsucc c (by omega), st16 c (by omega) 4 (by decide) (by decide), st16 r (by omega) 4 (by decide) (by decide)]
    rw [room_le _ _ _ (by have := hi.1; simp only [List.length_cons, List.length_nil]; omega), ck_true]
    cases ieql (bytesIdx (List.getD x r eS) (c : Int)) 111 <;> rfl
  · unfold mSpotTile at he
    cases ht : ieql (bytesIdx (List.getD x r eS) (c : Int)) 111 with
    | false => rw [ht] at he; cases he; exact ⟨by have := hi.1; omega, hi.2⟩
    | true =>
      rw [ht] at he
      cases he
      refine ⟨by have := hi.1; rw [List.length_append]; simp only [List.length_cons, List.length_nil]; omega, fun p hp => ?_⟩
      rw [List.mem_append] at hp
      rcases hp with hp | hp
      · exact hi.2 p hp
      · rw [List.mem_singleton] at hp
        rw [hp]
        rfl
  · have e2 : ilss ((List.getD x r eS).size : Int) (slen (List.getD x r eS)) = false := ilss_end _
    simp only [spec_SpotsOf_l2, Int.toNat_natCast, e0, e2, ck_true, cond_false]
theorem spot_impl_in {k : Nat} (x : List ByteArray) (r : Nat) (hr1 : r <= 12) (hw : (List.getD x r eS).size <= 20) (B : Nat) (hB : B <= 1000) (K : ((List ByteArray) × Int × Int × (List (List Int)) × Unit) -> Option (List (List Int))) (s : List (List Int)) (hs : SpotI B 0 s) :
    loopW (impl_SpotsOf_l2 (C k) K) ((r : Int), List.getD x r eS, 0, x, len x, (r : Int), s, ()) = oSum (mSpotRow x r s) (fun s' => K (x, len x, (r : Int), s', ())) /\ ∀ s', mSpotRow x r s = .inr s' -> SpotI B (List.getD x r eS).size s' := by
  refine loop_sumI _ (fun c s => ((r : Int), List.getD x r eS, (c : Int), x, len x, (r : Int), s, ())) (SpotI B) (mSpotTile x r) (fun s' => K (x, len x, (r : Int), s', ())) s hs _ rfl (fun c s hc hi => ⟨fun ag => ?_, fun s' he => ?_⟩) (fun s _ ag => ?_)
  · have e1 : inb (c : Int) (slen (List.getD x r eS)) = true := inb_nat c hc
    have e2 : ilss (c : Int) (slen (List.getD x r eS)) = true := ilss_nat hc
    simp only [impl_SpotsOf_l2, mSpotTile, Int.toNat_natCast, e1, e2, cond_true, ck_true, w64_nsucc c (by omega), st16' c (by omega) 4 (by decide) (by decide), st16' r (by omega) 4 (by decide) (by decide)]
    rw [room_le _ _ _ (by have := hi.1; simp only [List.length_cons, List.length_nil]; omega), ck_true]
    cases ieql (bytesIdx (List.getD x r eS) (c : Int)) 111 <;> rfl
  · unfold mSpotTile at he
    cases ht : ieql (bytesIdx (List.getD x r eS) (c : Int)) 111 with
    | false => rw [ht] at he; cases he; exact ⟨by have := hi.1; omega, hi.2⟩
    | true =>
      rw [ht] at he
      cases he
      refine ⟨by have := hi.1; rw [List.length_append]; simp only [List.length_cons, List.length_nil]; omega, fun p hp => ?_⟩
      rw [List.mem_append] at hp
      rcases hp with hp | hp
      · exact hi.2 p hp
      · rw [List.mem_singleton] at hp
        rw [hp]
        rfl
  · have e2 : ilss ((List.getD x r eS).size : Int) (slen (List.getD x r eS)) = false := ilss_end _
    simp only [impl_SpotsOf_l2, e2, cond_false]
theorem spot_inr {R S : Type} (f : Nat -> S -> Sum R S) : ∀ (d n : Nat) (r : R), (∀ n s, ∀ r, f n s ≠ .inl r) -> ∀ s, sFold f d n s ≠ .inl r
  | 0, n, r, h, s => by intro e; cases e
  | d + 1, n, r, h, s => by
    simp only [sFold]
    cases hf : f n s with
    | inl q => exact absurd hf (h n s q)
    | inr s' => exact spot_inr f d (n + 1) r h s'
theorem spots_spec {k : Nat} (hk : 3 <= k) (x : List ByteArray) : c_spec_SpotsOf (C k) x = some (mSpots x) /\ (mSpots x).length <= 240 /\ ∀ p ∈ mSpots x, p.length = 2 := by
  obtain ⟨k, rfl⟩ := pk (by omega)
  rw [u_spec_SpotsOf]
  simp only [spec_SpotsOf, mSpots]
  cases hl : mLevel x with
  | false =>
    refine ⟨?_, by simp, fun p hp => by cases hp⟩
    refine loopW_stop (fun ag => ?_)
    simp only [spec_SpotsOf_l0, L_spec_LevelOk (k := k) (by omega), bnd_some, hl]
    cases ilss 0 (len x) <;> rfl
  | true =>
    obtain ⟨f1, f2, f3, f4, f5⟩ := mLevel_facts hl
    have := loop_sumI (body := spec_SpotsOf_l0 (C k) (fun v7 => (some v7.1))) x.length (fun r s => ((r : Int), x, s, ())) (fun r s => SpotI (20 * r) 0 s) (mSpotRow x) (fun s' => some s') [] ⟨by simp, by simp⟩ (0, x, [], ()) rfl (fun r s hr hi => ?_) (fun s _ ag => ?_)
    · obtain ⟨h1, h2⟩ := this
      rw [h1, cond_true]
      have hx : ∃ s', sFold (mSpotRow x) x.length 0 [] = .inr s' := by
        cases he : sFold (mSpotRow x) x.length 0 [] with
        | inr s' => exact ⟨s', rfl⟩
        | inl r => exact absurd he (spot_inr (mSpotRow x) _ _ r (fun r s q => spot_inr (mSpotTile x r) _ _ q (fun c s q => by unfold mSpotTile; cases ieql (bytesIdx (List.getD x r eS) (c : Int)) 111 <;> simp) s) _)
      obtain ⟨s', he⟩ := hx
      have hi := h2 s' he
      rw [he]
      have hj := hi.1
      refine ⟨rfl, ?_, hi.2⟩
      show s'.length <= 240
      omega
    · have hw : (List.getD x r eS).size <= 20 := by rw [getD_lt hr, f5 _ hr]; omega
      have e2 : ilss (r : Int) (len x) = true := ilss_nat hr
      refine ⟨fun ag => ?_, fun s' he => ?_⟩
      · simp only [spec_SpotsOf_l0, L_spec_LevelOk (k := k) (by omega), bnd_some, hl, e2, cond_true]
        rw [(spot_spec_in x r hr (by omega) hw (20 * r) (by omega) _ s hi).1]
        simp only [w64_nsucc r (by omega)]
      · have := (spot_spec_in (k := k) x r hr (by omega) hw (20 * r) (by omega) (fun _ => none) s hi).2 s' he
        exact ⟨by have := this.1; omega, this.2⟩
    · have e2 : ilss (x.length : Int) (len x) = false := ilss_end _
      simp only [spec_SpotsOf_l0, e2, cond_false, bnd_some]
theorem L_spec_SpotsOf {k : Nat} (hk : 3 <= k) (x : List ByteArray) : c_spec_SpotsOf (C k) x = some (mSpots x) := (spots_spec hk x).1
theorem mSpots_facts (x : List ByteArray) : (mSpots x).length <= 240 /\ ∀ p ∈ mSpots x, p.length = 2 := (spots_spec (k := 3) (by omega) x).2
theorem L_impl_SpotsOf {k : Nat} (hk : 3 <= k) (x : List ByteArray) : c_impl_SpotsOf (C k) x = some (mSpots x) := by
  obtain ⟨k, rfl⟩ := pk (by omega)
  rw [u_impl_SpotsOf]
  simp only [impl_SpotsOf, L_impl_LevelOk (k := k) (by omega), bnd_some, mSpots]
  cases hl : mLevel x with
  | false => rfl
  | true =>
    obtain ⟨f1, f2, f3, f4, f5⟩ := mLevel_facts hl
    have := loop_sumI (body := impl_SpotsOf_l0 (C k) (fun v6 => (some v6.1))) x.length (fun r s => (x, len x, (r : Int), s, ())) (fun r s => SpotI (20 * r) 0 s) (mSpotRow x) (fun s' => some s') [] ⟨by simp, by simp⟩ (x, len x, 0, [], ()) rfl (fun r s hr hi => ?_) (fun s _ ag => ?_)
    · rw [Bool.not_true, cond_false, this.1]
      cases sFold (mSpotRow x) x.length 0 [] <;> rfl
    · have hw : (List.getD x r eS).size <= 20 := by rw [getD_lt hr, f5 _ hr]; omega
      have e0 : inb (r : Int) (len x) = true := inb_nat r hr
      have e2 : ilss (r : Int) (len x) = true := ilss_nat hr
      refine ⟨fun ag => ?_, fun s' he => ?_⟩
      · simp only [impl_SpotsOf_l0, Int.toNat_natCast, e0, e2, ck_true, cond_true]
        rw [(spot_impl_in x r (by omega) hw (20 * r) (by omega) _ s hi).1]
        simp only [w64_nsucc r (by omega)]
      · have := (spot_impl_in (k := k) x r (by omega) hw (20 * r) (by omega) (fun _ => none) s hi).2 s' he
        exact ⟨by have := this.1; omega, this.2⟩
    · have e2 : ilss (x.length : Int) (len x) = false := ilss_end _
      simp only [impl_SpotsOf_l0, e2, cond_false]
end Go.Proofs.YtaflceohlijekaaGreat.Ev
namespace Go.Proofs.YtaflceohlijekaaGreat.Ev
def mBodyRest (kd ow am lf tm : Int) : Bool :=
  bif ieql kd 0 then ((ieql am 1 || ieql am (-1)) && mIn lf 0 3) && (bif ieql lf 0 then mIn tm 1 20 else mIn tm 0 12) else
  bif ieql kd 1 then (ieql am 0 && (ieql lf 0 && mIn tm 1 25)) else (ieql ow 0 && (ieql am 0 && (ieql lf 0 && ieql tm 0)))
def mBody (x : List ByteArray) (n : Int) (b : TBody) : Bool :=
  mIn b.1 0 2 && (mIn b.2.1 0 (n - 1) && (!mSolid x b.2.2.1 b.2.2.2.1 (mSize b.1) && (mIn b.2.2.2.2.1 (-15) 15 && (mIn b.2.2.2.2.2.1 (-15) 15 && mBodyRest b.1 b.2.1 b.2.2.2.2.2.2.1 b.2.2.2.2.2.2.2.1 b.2.2.2.2.2.2.2.2))))
theorem mSize_of {kd : Int} (h : mIn kd 0 2 = true) : 1 <= mSize kd /\ mSize kd <= 16 := by
  rw [mIn_iff] at h
  have : kd = 0 \/ kd = 1 \/ kd = 2 := by omega
  rcases this with rfl | rfl | rfl <;> exact ⟨by decide, by decide⟩
theorem L_spec_l02Body {k : Nat} (hk : 3 <= k) (x : List ByteArray) (n : Int) (b : TBody) (h0 : 0 <= n) (h1 : n <= 1000) : c_spec_l02Body (C k) (x, n, b) = some (mBody x n b) := by
  obtain ⟨k, rfl⟩ := pk (by omega)
  rw [u_spec_l02Body]
  obtain ⟨kd, ow, px, py, vx, vy, am, lf, tm⟩ := b
  simp only [spec_l02Body, L_spec_l01In (k := k) (by omega), L_spec_SizeOf (k := k) (by omega), bnd_some, bnd_same, some_bif, mBody, mBodyRest, w64_id (x := n - 1) (by omega) (by omega), ineq_not]
  cases hkd : mIn kd 0 2 with
  | false => rfl
  | true =>
    obtain ⟨s1, s2⟩ := mSize_of hkd
    simp only [L_spec_l02Solid (k := k) (by omega) x px py (mSize kd) s1 s2, bnd_some, some_bif]
    cases mIn ow 0 (n - 1) <;> cases mSolid x px py (mSize kd) <;> cases mIn vx (-15) 15 <;> cases mIn vy (-15) 15 <;> first | rfl | skip
    cases ieql kd 0 with
    | true => cases ieql am 1 <;> cases ieql am (-1) <;> cases mIn lf 0 3 <;> cases ieql lf 0 <;> rfl
    | false =>
      cases ieql kd 1 with
      | true => cases ieql am 0 <;> cases ieql lf 0 <;> rfl
      | false => cases ieql ow 0 <;> cases ieql am 0 <;> cases ieql lf 0 <;> rfl
theorem life_pos {lf : Int} (h : mIn lf 0 3 = true) : igtr lf 0 = !ieql lf 0 := by
  rw [mIn_iff] at h
  simp only [igtr, ieql]
  by_cases hz : lf = 0
  · subst hz; rfl
  · have : lf > 0 := by omega
    simp [this, hz]
theorem own_in (ow n : Int) : (bif ilss ow 0 then true else igeq ow n) = !mIn ow 0 (n - 1) := by
  rw [<- out_in]
  cases ilss ow 0 <;> first | rfl | skip
  simp only [cond_false, igeq, igtr]
  rw [decide_eq_decide]
  omega
theorem L_impl_BodyOk {k : Nat} (hk : 4 <= k) (x : List ByteArray) (n : Int) (b : TBody) : c_impl_BodyOk (C k) (x, n, b) = some (mLevel x && mBody x n b) := by
  obtain ⟨k, rfl⟩ := pk (by omega)
  rw [u_impl_BodyOk]
  obtain ⟨kd, ow, px, py, vx, vy, am, lf, tm⟩ := b
  simp only [impl_BodyOk, L_impl_LevelOk (k := k) (by omega), L_impl_between (k := k) (by omega), L_impl_SizeOf (k := k) (by omega), bnd_some, bnd_same, some_bif, out_in, mBody, mBodyRest, ineq_not]
  cases hl : mLevel x with
  | false => rfl
  | true =>
    cases hkd : mIn kd 0 2 with
    | false => rfl
    | true =>
      obtain ⟨s1, s2⟩ := mSize_of hkd
      simp only [L_impl_SolidAt (k := k) (by omega) x hl px py (mSize kd) s1 s2, bnd_some, some_bif]
      rw [mIn_iff] at hkd
      have hown := own_in ow n
      have : kd = 0 \/ kd = 1 \/ kd = 2 := by omega
      rcases this with rfl | rfl | rfl
      · rw [show ieql 0 2 = false from rfl, show ieql 0 0 = true from rfl]
        simp only [cond_true, cond_false]
        have e : (bif ilss ow 0 then true else bif igeq ow n then true else false) = !mIn ow 0 (n - 1) := by rw [<- hown]; cases ilss ow 0 <;> cases igeq ow n <;> rfl
        rw [e]
        cases mIn ow 0 (n - 1) <;> cases mSolid x px py (mSize 0) <;> cases mIn vx (-15) 15 <;> cases mIn vy (-15) 15 <;> first | rfl | skip
        cases hlf : mIn lf 0 3 with
        | false => cases ieql am 1 <;> cases ieql am (-1) <;> rfl
        | true =>
          rw [life_pos hlf]
          cases ieql am 1 <;> cases ieql am (-1) <;> cases ieql lf 0 <;> rfl
      · rw [show ieql 1 2 = false from rfl, show ieql 1 0 = false from rfl, show ieql 1 1 = true from rfl]
        simp only [cond_true, cond_false]
        have e : (bif ilss ow 0 then true else bif igeq ow n then true else false) = !mIn ow 0 (n - 1) := by rw [<- hown]; cases ilss ow 0 <;> cases igeq ow n <;> rfl
        rw [e]
        cases mIn ow 0 (n - 1) <;> cases mSolid x px py (mSize 1) <;> cases mIn vx (-15) 15 <;> cases mIn vy (-15) 15 <;> first | rfl | skip
        cases ieql am 0 <;> cases ieql lf 0 <;> rfl
      · rw [show ieql 2 2 = true from rfl, show ieql 2 0 = false from rfl, show ieql 2 1 = false from rfl]
        simp only [cond_true, cond_false]
        have e : (bif ilss ow 0 then true else bif igeq ow n then true else !ieql ow 0) = (!mIn ow 0 (n - 1) || !ieql ow 0) := by rw [<- hown]; cases ilss ow 0 <;> cases igeq ow n <;> rfl
        rw [e]
        cases mIn ow 0 (n - 1) <;> cases mSolid x px py (mSize 2) <;> cases mIn vx (-15) 15 <;> cases mIn vy (-15) 15 <;> first | rfl | (cases ieql ow 0 <;> rfl) | skip
        cases ieql ow 0 <;> cases ieql am 0 <;> cases ieql lf 0 <;> rfl
def mScore (s : Int) : Bool := mIn s 0 1000000
def mBodyAt (x : List ByteArray) (n : Nat) (bs : List TBody) (i : Nat) : Bool :=
  mBody x (n : Int) (List.getD bs i dBody) && (bif decide (i < n) then ieql (List.getD bs i dBody).1 0 && ieql (List.getD bs i dBody).2.1 (i : Int) else !ieql (List.getD bs i dBody).1 0)
def mWorld (w : TWorld) : Bool :=
  mLevel w.1 && (mIn w.2.1 0 100000 && (mIn w.2.2.1 0 65535 && (mIn (len w.2.2.2.1) 1 4 && (w.2.2.2.1.all mScore && (mIn (len w.2.2.2.2) (len w.2.2.2.1) 24 && (List.range w.2.2.2.2.length).all (mBodyAt w.1 w.2.2.2.1.length w.2.2.2.2))))))
theorem ilss_natd (a b : Nat) : ilss (a : Int) (b : Int) = decide (a < b) := by
  simp only [ilss]
  rw [decide_eq_decide]
  omega
theorem igeq_natd (a b : Nat) : igeq (a : Int) (b : Int) = !decide (a < b) := by
  simp only [igeq]
  by_cases h : a < b
  · have : ¬ (a : Int) >= b := by omega
    simp [h, this]
  · have : (a : Int) >= b := by omega
    simp [h, this]
theorem L_spec_WorldOk {k : Nat} (hk : 4 <= k) (w : TWorld) : c_spec_WorldOk (C k) w = some (mWorld w) := by
  obtain ⟨k, rfl⟩ := pk (by omega)
  rw [u_spec_WorldOk]
  obtain ⟨x, tk, sd, ss, bs⟩ := w
  simp only [spec_WorldOk, L_spec_LevelOk (k := k) (by omega), L_spec_l01In (k := k) (by omega), bnd_some, bnd_same, some_bif, mWorld]
  cases hl : mLevel x with
  | false => rfl
  | true =>
    cases h1 : mIn tk 0 100000 <;> cases h2 : mIn sd 0 65535 <;> cases h3 : mIn (len ss) 1 4 <;> cases h4 : mIn (len bs) (len ss) 24 <;> first | rfl | (rw [Bool.false_and, Bool.and_false]; rfl) | skip
    rw [mIn_iff] at h3 h4
    simp only [len] at h3 h4
    have hm : ss.length <= maxLen := Nat.le_trans (show ss.length <= 4 by omega) (by decide)
    have hb : bs.length <= maxLen := Nat.le_trans (show bs.length <= 24 by omega) (by decide)
    refine (loop_all0 ss (fun n => (len ss, (n : Int), x, tk, sd, ss, bs, ())) mScore false ?K (fun n hn ag => ?h) (fun ag => ?e)).trans ?r
    case e =>
      have e2 : ilss (ss.length : Int) (len ss) = false := ilss_end _
      simp only [spec_WorldOk_l0, e2, cond_false]
      rfl
    case h =>
      have e0 : inb (n : Int) (len ss) = true := inb_nat n hn
      have e2 : ilss (n : Int) (len ss) = true := ilss_nat hn
      simp only [spec_WorldOk_l0, Int.toNat_natCast, e0, e2, cond_true, ck_true, getD_lt hn, w64_succ hn hm, L_spec_l01In (k := k) (by omega), bnd_some]
      show (bif !mScore ss[n] then _ else _) = bif mScore ss[n] then _ else _
      cases mScore ss[n] <;> rfl
    case r =>
      cases hs : ss.all mScore with
      | false => rfl
      | true =>
        refine (loop_allN bs.length (fun n => (len ss, (n : Int), x, tk, sd, ss, bs, ())) (mBodyAt x ss.length bs) false (some true) (fun n hn ag => ?_) (fun ag => ?_)).trans ?_
        · have e0 : inb (n : Int) (len bs) = true := inb_nat n hn
          have e2 : ilss (n : Int) (len bs) = true := ilss_nat hn
          simp only [spec_WorldOk_l2, Int.toNat_natCast, e0, e2, cond_true, ck_true, w64_succ hn hb, L_spec_l02Body (k := k) (by omega) x (len ss) _ (by simp only [len]; omega) (by simp only [len]; omega), bnd_some, some_bif, ineq_not, ilss_natd n ss.length, mBodyAt]
          show (bif (bif !mBody x (len ss) (List.getD bs n dBody) then _ else _) then _ else _) = bif (mBody x (len ss) (List.getD bs n dBody) && _) then _ else _
          cases mBody x (len ss) (List.getD bs n dBody) <;> cases ieql (List.getD bs n dBody).1 0 <;> cases ieql (List.getD bs n dBody).2.1 (n : Int) <;> cases decide (n < ss.length) <;> rfl
        · have e2 : ilss (bs.length : Int) (len bs) = false := ilss_end _
          simp only [spec_WorldOk_l2, e2, cond_false]
        · rw [some_bif]
          simp only [Bool.true_and]
          cases (List.range bs.length).all (mBodyAt x ss.length bs) <;> rfl
theorem L_impl_WorldOk {k : Nat} (hk : 5 <= k) (w : TWorld) : c_impl_WorldOk (C k) w = some (mWorld w) := by
  obtain ⟨k, rfl⟩ := pk (by omega)
  rw [u_impl_WorldOk]
  obtain ⟨x, tk, sd, ss, bs⟩ := w
  simp only [impl_WorldOk, L_impl_LevelOk (k := k) (by omega), L_impl_between (k := k) (by omega), bnd_some, bnd_same, some_bif, out_in, mWorld]
  cases hl : mLevel x with
  | false => rfl
  | true =>
    cases h1 : mIn tk 0 100000 <;> cases h2 : mIn sd 0 65535 <;> cases h3 : mIn (len ss) 1 4 <;> first | rfl | skip
    rw [mIn_iff] at h3
    simp only [len] at h3
    have hm : ss.length <= maxLen := Nat.le_trans (show ss.length <= 4 by omega) (by decide)
    refine (loop_all0 ss (fun n => (len ss, ss, len ss, (n : Int), x, tk, sd, ss, bs, ())) mScore false ?K (fun n hn ag => ?h) (fun ag => ?e)).trans ?r
    case e =>
      have e2 : ilss (ss.length : Int) (len ss) = false := ilss_end _
      simp only [impl_WorldOk_l0, e2, cond_false]
      rfl
    case h =>
      have e0 : inb (n : Int) (len ss) = true := inb_nat n hn
      have e2 : ilss (n : Int) (len ss) = true := ilss_nat hn
      simp only [impl_WorldOk_l0, Int.toNat_natCast, e0, e2, cond_true, ck_true, getD_lt hn, w64_succ hn hm, L_impl_between (k := k) (by omega), bnd_some]
      show (bif !mScore ss[n] then _ else _) = bif mScore ss[n] then _ else _
      cases mScore ss[n] <;> rfl
    case r =>
      cases hs : ss.all mScore with
      | false => rfl
      | true =>
        have hoi : (bif ilss (len bs) (len ss) then true else igtr (len bs) 24) = !mIn (len bs) (len ss) 24 := out_in _ _ _
        simp only [hoi, cond_true]
        cases h4 : mIn (len bs) (len ss) 24 with
        | false => rfl
        | true =>
          rw [mIn_iff] at h4
          simp only [len] at h4
          have hb : bs.length <= maxLen := Nat.le_trans (show bs.length <= 24 by omega) (by decide)
          refine (loop_allN bs.length (fun n => (len ss, bs, len bs, (n : Int), x, tk, sd, ss, bs, ())) (mBodyAt x ss.length bs) false (some true) (fun n hn ag => ?_) (fun ag => ?_)).trans ?_
          · have e0 : inb (n : Int) (len bs) = true := inb_nat n hn
            have e2 : ilss (n : Int) (len bs) = true := ilss_nat hn
            simp only [impl_WorldOk_l2, Int.toNat_natCast, e0, e2, cond_true, ck_true, w64_succ hn hb, L_impl_BodyOk (k := k) (by omega) x (len ss) _, hl, Bool.true_and, bnd_some, some_bif, ineq_not, mBodyAt]
            rw [show ilss (n : Int) (len ss) = decide (n < ss.length) from ilss_natd n ss.length, show igeq (n : Int) (len ss) = !decide (n < ss.length) from igeq_natd n ss.length]
            show (bif !mBody x (len ss) (List.getD bs n dBody) then _ else _) = bif (mBody x (len ss) (List.getD bs n dBody) && _) then _ else _
            cases mBody x (len ss) (List.getD bs n dBody) <;> cases ieql (List.getD bs n dBody).1 0 <;> cases ieql (List.getD bs n dBody).2.1 (n : Int) <;> cases decide (n < ss.length) <;> rfl
          · have e2 : ilss (bs.length : Int) (len bs) = false := ilss_end _
            simp only [impl_WorldOk_l2, e2, cond_false]
          · rw [some_bif]
            simp only [Bool.true_and]
            cases (List.range bs.length).all (mBodyAt x ss.length bs) <;> rfl
theorem mWorld_facts {w : TWorld} (h : mWorld w = true) : mLevel w.1 = true /\ (0 <= w.2.1 /\ w.2.1 <= 100000) /\ (0 <= w.2.2.1 /\ w.2.2.1 <= 65535) /\ (1 <= w.2.2.2.1.length /\ w.2.2.2.1.length <= 4) /\
    (∀ s ∈ w.2.2.2.1, 0 <= s /\ s <= 1000000) /\ (w.2.2.2.1.length <= w.2.2.2.2.length /\ w.2.2.2.2.length <= 24) /\ ∀ i, i < w.2.2.2.2.length -> mBodyAt w.1 w.2.2.2.1.length w.2.2.2.2 i = true := by
  unfold mWorld at h
  simp only [Bool.and_eq_true, mIn_iff, List.all_eq_true, List.mem_range, len] at h
  obtain ⟨a1, a2, a3, a4, a5, a6, a7⟩ := h
  refine ⟨a1, a2, a3, by omega, fun s hs => ?_, by omega, a7⟩
  have := a5 s hs
  unfold mScore at this
  rwa [mIn_iff] at this
def mNewBodies (x : List ByteArray) (n : Nat) : List TBody := (List.range n).map (fun (i : Nat) => mFresh x (i : Int))
def mNewW (x : List ByteArray) (n : Nat) (sd : Int) : TWorld := (x, 0, sd, List.replicate n 0, mNewBodies x n)
def mNew (x : List ByteArray) (p sd : Int) : TWorld × Bool := bif mIn p 1 4 && mWorld (mNewW x p.toNat sd) then (mNewW x p.toNat sd, true) else (([], 0, 0, [], []), false)
theorem mNewBodies_succ (x : List ByteArray) (n : Nat) : mNewBodies x (n + 1) = mNewBodies x n ++ [mFresh x (n : Int)] := by
  unfold mNewBodies
  rw [List.range_succ, List.map_append]
  rfl
theorem mNewBodies_len (x : List ByteArray) (n : Nat) : (mNewBodies x n).length = n := by simp [mNewBodies]
theorem mWorld_no {w : TWorld} (h : mIn (len w.2.2.2.1) 1 4 = false) : mWorld w = false := by
  unfold mWorld
  rw [h]
  cases mLevel w.1 <;> cases mIn w.2.1 0 100000 <;> cases mIn w.2.2.1 0 65535 <;> rfl
theorem L_spec_NewWorld {k : Nat} (hk : 5 <= k) (x : List ByteArray) (p sd : Int) (hl : x.length <= 1048576) : c_spec_NewWorld (C k) (x, p, sd) = some (mNew x p sd) := by
  obtain ⟨k, rfl⟩ := pk (by omega)
  rw [u_spec_NewWorld]
  simp only [spec_NewWorld, L_spec_l02CopyLevel (k := k) (by omega) x hl, bnd_some]
  have key : ∀ N : Nat, N <= 5 -> (N : Int) = (if p < 0 then 0 else if p <= 4 then p else 5) -> loopW (spec_NewWorld_l0 (C k) (fun v5 => (bnd (c_spec_WorldOk (C k) (v5.2.2.2.2.2.2.1, v5.2.2.1, v5.2.2.2.1, v5.2.2.2.2.2.1, v5.2.2.2.2.1)) fun r6 => (bif (!r6) then (some (([], 0, 0, [], []), false)) else (some ((v5.2.2.2.2.2.2.1, v5.2.2.1, v5.2.2.2.1, v5.2.2.2.2.2.1, v5.2.2.2.2.1), true)))))) (p, 0, x, 0, 0, 0, sd, [], [], x, [], [], [], ()) = some (bif mWorld (mNewW x N sd) then (mNewW x N sd, true) else (([], 0, 0, [], []), false)) := by
    intro N hN hp
    refine (loop_sum N (fun n (s : Unit) => (p, (n : Int), x, 0, 0, 0, sd, mNewBodies x n, List.replicate n (0 : Int), x, [], [], [], ())) (fun n s => .inr ()) (fun _ => some (bif mWorld (mNewW x N sd) then (mNewW x N sd, true) else (([], 0, 0, [], []), false))) () _ rfl (fun n s hn ag => ?_) (fun s ag => ?_)).trans ?_
    · have hp1 : (n : Int) < p := by
        split at hp
        · omega
        · split at hp <;> omega
      have e1 : ilss (n : Int) p = true := by simpa [ilss] using hp1
      have e2 : ileq (n : Int) 4 = true := by simp only [ileq, decide_eq_true_eq]; omega
      simp only [spec_NewWorld_l0, e1, e2, bnd_some, cond_true, L_spec_l02Fresh (k := k) (by omega), oSum_inr, w64_nsucc n (by omega)]
      rw [ck_of (room_le _ _ _ (by simp; omega)), ck_of (room_le _ _ _ (by rw [mNewBodies_len]; simp; omega)), mNewBodies_succ, List.replicate_succ' (n := n)]
    · have e : (bif ilss (N : Int) p then (some (ileq (N : Int) 4)) else (some false)) = some false := by
        by_cases h : (N : Int) < p
        · have e1 : ilss (N : Int) p = true := by simpa [ilss] using h
          have e2 : ileq (N : Int) 4 = false := by
            simp only [ileq, decide_eq_false_iff_not]
            split at hp
            · omega
            · split at hp <;> omega
          rw [e1, e2]
          rfl
        · rw [show ilss (N : Int) p = false by simpa [ilss] using h]
          rfl
      simp only [spec_NewWorld_l0, e, bnd_some, cond_false, L_spec_WorldOk (k := k) (by omega)]
      show (bif !mWorld (mNewW x N sd) then _ else _) = _
      cases mWorld (mNewW x N sd) <;> rfl
    · have : sFold (R := TWorld × Bool) (fun n (s : Unit) => .inr ()) N 0 () = .inr () := by
        have : ∀ d n, sFold (R := TWorld × Bool) (fun n (s : Unit) => .inr ()) d n () = .inr () := by
          intro d
          induction d with
          | zero => intro n; rfl
          | succ d ih => intro n; exact ih (n + 1)
        exact this N 0
      rw [this, oSum_inr]
  unfold mNew
  cases hp : mIn p 1 4 with
  | true =>
    rw [mIn_iff] at hp
    rw [key p.toNat (by omega) (by split <;> first | omega | (split <;> omega)), Bool.true_and]
  | false =>
    rw [<- Bool.not_eq_true, mIn_iff] at hp
    by_cases h0 : p <= 4
    · rw [key 0 (by omega) (by split <;> first | omega | (split <;> omega)), mWorld_no (by rfl)]
      rfl
    · rw [key 5 (by omega) (by split <;> first | omega | (split <;> omega)), mWorld_no (by rfl)]
      rfl
theorem L_impl_NewWorld {k : Nat} (hk : 6 <= k) (x : List ByteArray) (p sd : Int) (hl : x.length <= 1048576) : c_impl_NewWorld (C k) (x, p, sd) = some (mNew x p sd) := by
  obtain ⟨k, rfl⟩ := pk (by omega)
  rw [u_impl_NewWorld]
  simp only [impl_NewWorld, L_impl_LevelOk (k := k) (by omega), L_impl_between (k := k) (by omega), L_impl_copyLevel (k := k) (by omega) x hl, bnd_some, some_bif, mNew]
  have hno : mLevel x = false \/ mIn sd 0 65535 = false -> mWorld (mNewW x p.toNat sd) = false := by
    intro h
    unfold mWorld mNewW
    rcases h with h | h
    · simp only [h, Bool.false_and]
    · simp only [h, Bool.false_and, Bool.and_false]
  cases h1 : mLevel x with
  | false => rw [hno (.inl h1), Bool.and_false]; rfl
  | true =>
    cases h2 : mIn p 1 4 with
    | false => rfl
    | true =>
      cases h3 : mIn sd 0 65535 with
      | false => rw [hno (.inr h3)]; rfl
      | true =>
        rw [mIn_iff] at h2
        obtain ⟨N, rfl⟩ := Int.eq_ofNat_of_zero_le (show 0 <= p by omega)
        simp only [Bool.not_true, cond_false, Bool.true_and, Int.toNat_natCast]
        have em : mkb (N : Int) (N : Int) 17592186044416 = true := mkb_len (m := 17592186044416) (by omega)
        rw [em, ck_true]
        refine (loop_sum N (fun n (s : Unit) => ((N : Int), (n : Int), x, 0, 0, 0, sd, mNewBodies x n, List.replicate N (0 : Int), x, [], [], [], ())) (fun n s => .inr ()) (fun _ => some (bif mWorld (mNewW x N sd) then (mNewW x N sd, true) else (([], 0, 0, [], []), false))) () _ rfl (fun n s hn ag => ?_) (fun s ag => ?_)).trans ?_
        · have e1 : ilss (n : Int) (N : Int) = true := ilss_nat hn
          simp only [impl_NewWorld_l0, e1, bnd_some, cond_true, L_impl_freshPlayer (k := k) (by omega), oSum_inr, w64_nsucc n (by omega)]
          rw [ck_of (room_le _ _ _ (by rw [mNewBodies_len]; simp; omega)), mNewBodies_succ]
        · have e1 : ilss (N : Int) (N : Int) = false := ilss_end _
          simp only [impl_NewWorld_l0, e1, bnd_some, cond_false, L_impl_WorldOk (k := k) (by omega)]
          show some (bif !mWorld (mNewW x N sd) then _ else _) = _
          cases mWorld (mNewW x N sd) <;> rfl
        · have : sFold (R := TWorld × Bool) (fun n (s : Unit) => .inr ()) N 0 () = .inr () := by
            have : ∀ d n, sFold (R := TWorld × Bool) (fun n (s : Unit) => .inr ()) d n () = .inr () := by
              intro d
              induction d with
              | zero => intro n; rfl
              | succ d ih => intro n; exact ih (n + 1)
            exact this N 0
          rw [this, oSum_inr]
end Go.Proofs.YtaflceohlijekaaGreat.Ev
namespace Go.Proofs.YtaflceohlijekaaGreat.Ev
def walk (solid : Int -> Bool) (step : Int) : Nat -> Int -> Int × Bool
  | 0, p => (p, false)
  | n + 1, p => bif solid (w64 (p + step)) then (p, true) else walk solid step n (w64 (p + step))
theorem igtr_succ (n : Nat) : igtr ((n + 1 : Nat) : Int) 0 = true := by
  simp only [igtr, decide_eq_true_eq]
  omega
theorem w64_pred (n : Nat) (h : n <= 1000) : w64 (((n + 1 : Nat) : Int) - 1) = (n : Int) := by
  rw [w64_id (by omega) (by omega)]
  omega
theorem mv_spec_x {k : Nat} (hk : 2 <= k) (x : List ByteArray) (sz : Int) (h1 : 1 <= sz) (h2 : sz <= 16) (stp kd ow py vx vy am lf tm : Int) (K : (Int × Bool × (List ByteArray) × Int × Int × Int × Int × Int × Int × Int × Int × Int × Int × Int × Int × Int × Int × Int × Int × Int × Int × Unit) -> Option (TBody × Bool)) (sp : Bool) : ∀ (N : Nat), N <= 15 -> ∀ (px : Int),
    loopW (spec_l02Move_l0 (C k) K) (sz, sp, stp, (N : Int), x, kd, ow, px, py, vx, vy, am, lf, tm, 0, 0, 0, 0, 0, 0, 0, 0, 0, ()) = K (sz, (bif (walk (fun q => mSolid x q py sz) stp N px).2 then true else sp), x, kd, ow, (walk (fun q => mSolid x q py sz) stp N px).1, py, (bif (walk (fun q => mSolid x q py sz) stp N px).2 then 0 else vx), vy, am, lf, tm, 0, 0, 0, 0, 0, 0, 0, 0, 0, ())
  | 0, _, px => by
    have e : igtr ((0 : Nat) : Int) 0 = false := rfl
    refine loopW_stop (fun ag => ?_)
    simp only [spec_l02Move_l0, e, cond_false, walk]
  | N + 1, hN, px => by
    simp only [walk]
    cases hs : mSolid x (w64 (px + stp)) py sz with
    | true =>
      refine loopW_stop (fun ag => ?_)
      simp only [spec_l02Move_l0, igtr_succ, cond_true, L_spec_l02Solid (k := k) (by omega) x _ _ sz h1 h2, bnd_some, hs]
    | false =>
      rw [cond_false, loopW_step (v' := (sz, sp, stp, (N : Int), x, kd, ow, w64 (px + stp), py, vx, vy, am, lf, tm, 0, 0, 0, 0, 0, 0, 0, 0, 0, ())) (fun ag => by simp only [spec_l02Move_l0, igtr_succ, cond_true, L_spec_l02Solid (k := k) (by omega) x _ _ sz h1 h2, bnd_some, hs, cond_false, w64_pred N (by omega)])]
      exact mv_spec_x hk x sz h1 h2 stp kd ow py vx vy am lf tm K sp N (by omega) (w64 (px + stp))
theorem mv_spec_y {k : Nat} (hk : 2 <= k) (x : List ByteArray) (sz : Int) (h1 : 1 <= sz) (h2 : sz <= 16) (stp kd ow px vx vy am lf tm : Int) (K : (Bool × Int × Int × Int × Int × Int × Int × Int × Int × Int × Int × Int × Int × Int × Int × Int × Int × Int × Int × Unit) -> Option (TBody × Bool)) (sp : Bool) : ∀ (N : Nat), N <= 15 -> ∀ (py : Int),
    loopW (spec_l02Move_l2 (C k) K) (sz, sp, stp, (N : Int), x, kd, ow, px, py, vx, vy, am, lf, tm, 0, 0, 0, 0, 0, 0, 0, 0, 0, ()) = K ((bif (walk (fun q => mSolid x px q sz) stp N py).2 then true else sp), kd, ow, px, (walk (fun q => mSolid x px q sz) stp N py).1, vx, (bif (walk (fun q => mSolid x px q sz) stp N py).2 then 0 else vy), am, lf, tm, 0, 0, 0, 0, 0, 0, 0, 0, 0, ())
  | 0, _, py => by
    have e : igtr ((0 : Nat) : Int) 0 = false := rfl
    refine loopW_stop (fun ag => ?_)
    simp only [spec_l02Move_l2, e, cond_false, walk]
  | N + 1, hN, py => by
    simp only [walk]
    cases hs : mSolid x px (w64 (py + stp)) sz with
    | true =>
      refine loopW_stop (fun ag => ?_)
      simp only [spec_l02Move_l2, igtr_succ, cond_true, L_spec_l02Solid (k := k) (by omega) x _ _ sz h1 h2, bnd_some, hs]
    | false =>
      rw [cond_false, loopW_step (v' := (sz, sp, stp, (N : Int), x, kd, ow, px, w64 (py + stp), vx, vy, am, lf, tm, 0, 0, 0, 0, 0, 0, 0, 0, 0, ())) (fun ag => by simp only [spec_l02Move_l2, igtr_succ, cond_true, L_spec_l02Solid (k := k) (by omega) x _ _ sz h1 h2, bnd_some, hs, cond_false, w64_pred N (by omega)])]
      exact mv_spec_y hk x sz h1 h2 stp kd ow px vx vy am lf tm K sp N (by omega) (w64 (py + stp))
theorem mv_impl_x {k : Nat} (hk : 1 <= k) (x : List ByteArray) (hx : mLevel x = true) (sz : Int) (h1 : 1 <= sz) (h2 : sz <= 16) (stp kd ow py vx vy am lf tm : Int) (K : (Int × Bool × (List ByteArray) × Int × Int × Int × Int × Int × Int × Int × Int × Int × Int × Int × Int × Int × Int × Int × Int × Int × Int × Unit) -> Option (TBody × Bool)) (sp : Bool) (M : Nat) (hM : M <= 15) : ∀ (N n : Nat), n + N = M -> ∀ (px : Int),
    loopW (impl_MoveBody_l0 (C k) K) (sz, sp, stp, (M : Int), (n : Int), x, kd, ow, px, py, vx, vy, am, lf, tm, 0, 0, 0, 0, 0, 0, 0, 0, 0, ()) = K (sz, (bif (walk (fun q => mSolid x q py sz) stp N px).2 then true else sp), x, kd, ow, (walk (fun q => mSolid x q py sz) stp N px).1, py, (bif (walk (fun q => mSolid x q py sz) stp N px).2 then 0 else vx), vy, am, lf, tm, 0, 0, 0, 0, 0, 0, 0, 0, 0, ())
  | 0, n, hn, px => by
    have e : ilss (n : Int) (M : Int) = false := by
      simp only [ilss, decide_eq_false_iff_not]
      omega
    refine loopW_stop (fun ag => ?_)
    simp only [impl_MoveBody_l0, e, cond_false, walk]
  | N + 1, n, hn, px => by
    have e : ilss (n : Int) (M : Int) = true := ilss_nat (by omega)
    simp only [walk]
    cases hs : mSolid x (w64 (px + stp)) py sz with
    | true =>
      refine loopW_stop (fun ag => ?_)
      simp only [impl_MoveBody_l0, e, cond_true, L_impl_solid (k := k) (by omega) x hx _ _ sz h1 h2, bnd_some, hs]
    | false =>
      rw [cond_false, loopW_step (v' := (sz, sp, stp, (M : Int), ((n + 1 : Nat) : Int), x, kd, ow, w64 (px + stp), py, vx, vy, am, lf, tm, 0, 0, 0, 0, 0, 0, 0, 0, 0, ())) (fun ag => by simp only [impl_MoveBody_l0, e, cond_true, L_impl_solid (k := k) (by omega) x hx _ _ sz h1 h2, bnd_some, hs, cond_false, w64_nsucc n (by omega)])]
      exact mv_impl_x hk x hx sz h1 h2 stp kd ow py vx vy am lf tm K sp M hM N (n + 1) (by omega) (w64 (px + stp))
theorem mv_impl_y {k : Nat} (hk : 1 <= k) (x : List ByteArray) (hx : mLevel x = true) (sz : Int) (h1 : 1 <= sz) (h2 : sz <= 16) (stp kd ow px vx vy am lf tm : Int) (K : (Bool × Int × Int × Int × Int × Int × Int × Int × Int × Int × Int × Int × Int × Int × Int × Int × Int × Int × Int × Unit) -> Option (TBody × Bool)) (sp : Bool) (M : Nat) (hM : M <= 15) : ∀ (N n : Nat), n + N = M -> ∀ (py : Int),
    loopW (impl_MoveBody_l2 (C k) K) (sz, sp, stp, (M : Int), (n : Int), x, kd, ow, px, py, vx, vy, am, lf, tm, 0, 0, 0, 0, 0, 0, 0, 0, 0, ()) = K ((bif (walk (fun q => mSolid x px q sz) stp N py).2 then true else sp), kd, ow, px, (walk (fun q => mSolid x px q sz) stp N py).1, vx, (bif (walk (fun q => mSolid x px q sz) stp N py).2 then 0 else vy), am, lf, tm, 0, 0, 0, 0, 0, 0, 0, 0, 0, ())
  | 0, n, hn, py => by
    have e : ilss (n : Int) (M : Int) = false := by
      simp only [ilss, decide_eq_false_iff_not]
      omega
    refine loopW_stop (fun ag => ?_)
    simp only [impl_MoveBody_l2, e, cond_false, walk]
  | N + 1, n, hn, py => by
    have e : ilss (n : Int) (M : Int) = true := ilss_nat (by omega)
    simp only [walk]
    cases hs : mSolid x px (w64 (py + stp)) sz with
    | true =>
      refine loopW_stop (fun ag => ?_)
      simp only [impl_MoveBody_l2, e, cond_true, L_impl_solid (k := k) (by omega) x hx _ _ sz h1 h2, bnd_some, hs]
    | false =>
      rw [cond_false, loopW_step (v' := (sz, sp, stp, (M : Int), ((n + 1 : Nat) : Int), x, kd, ow, px, w64 (py + stp), vx, vy, am, lf, tm, 0, 0, 0, 0, 0, 0, 0, 0, 0, ())) (fun ag => by simp only [impl_MoveBody_l2, e, cond_true, L_impl_solid (k := k) (by omega) x hx _ _ sz h1 h2, bnd_some, hs, cond_false, w64_nsucc n (by omega)])]
      exact mv_impl_y hk x hx sz h1 h2 stp kd ow px vx vy am lf tm K sp M hM N (n + 1) (by omega) (w64 (py + stp))
def mDir (v : Int) : Int × Nat := (bif ilss v 0 then -1 else 1, bif ilss v 0 then (-v).toNat else v.toNat)
def mMoveW (x : List ByteArray) (sz px py vx vy : Int) : (Int × Bool) × (Int × Bool) :=
  (walk (fun q => mSolid x q py sz) (mDir vx).1 (mDir vx).2 px, walk (fun q => mSolid x (walk (fun q => mSolid x q py sz) (mDir vx).1 (mDir vx).2 px).1 q sz) (mDir vy).1 (mDir vy).2 py)
def mMove (x : List ByteArray) (b : TBody) : TBody × Bool :=
  ((b.1, b.2.1, (mMoveW x (mSize b.1) b.2.2.1 b.2.2.2.1 b.2.2.2.2.1 b.2.2.2.2.2.1).1.1, (mMoveW x (mSize b.1) b.2.2.1 b.2.2.2.1 b.2.2.2.2.1 b.2.2.2.2.2.1).2.1,
    (bif (mMoveW x (mSize b.1) b.2.2.1 b.2.2.2.1 b.2.2.2.2.1 b.2.2.2.2.2.1).1.2 then 0 else b.2.2.2.2.1), (bif (mMoveW x (mSize b.1) b.2.2.1 b.2.2.2.1 b.2.2.2.2.1 b.2.2.2.2.2.1).2.2 then 0 else b.2.2.2.2.2.1), b.2.2.2.2.2.2),
   bif (mMoveW x (mSize b.1) b.2.2.1 b.2.2.2.1 b.2.2.2.2.1 b.2.2.2.2.2.1).2.2 then true else (bif (mMoveW x (mSize b.1) b.2.2.1 b.2.2.2.1 b.2.2.2.2.1 b.2.2.2.2.2.1).1.2 then true else false))
theorem dir_neg {v : Int} (h1 : -15 <= v) (h : ilss v 0 = true) : w64 (0 - v) = (((-v).toNat : Nat) : Int) /\ (-v).toNat <= 15 /\ mDir v = (-1, (-v).toNat) := by
  have hv : v < 0 := by simpa [ilss] using h
  refine ⟨?_, by omega, by unfold mDir; rw [h]; rfl⟩
  rw [w64_id (by omega) (by omega)]
  omega
theorem dir_pos {v : Int} (h2 : v <= 15) (h : ilss v 0 = false) : v = ((v.toNat : Nat) : Int) /\ v.toNat <= 15 /\ mDir v = (1, v.toNat) := by
  have hv : ¬ v < 0 := by simpa [ilss] using h
  exact ⟨by omega, by omega, by unfold mDir; rw [h]; rfl⟩
theorem L_spec_l02Move {k : Nat} (hk : 3 <= k) (x : List ByteArray) (b : TBody) (hb : mIn b.1 0 2 = true) (h1 : -15 <= b.2.2.2.2.1 /\ b.2.2.2.2.1 <= 15) (h2 : -15 <= b.2.2.2.2.2.1 /\ b.2.2.2.2.2.1 <= 15) : c_spec_l02Move (C k) (x, b) = some (mMove x b) := by
  obtain ⟨k, rfl⟩ := pk (by omega)
  rw [u_spec_l02Move]
  obtain ⟨kd, ow, px, py, vx, vy, am, lf, tm⟩ := b
  obtain ⟨s1, s2⟩ := mSize_of hb
  simp only at h1 h2 s1 s2
  simp only [spec_l02Move, L_spec_SizeOf (k := k) (by omega), bnd_some, mMove, mMoveW]
  cases hx : ilss vx 0 with
  | true =>
    obtain ⟨e1, e2, e3⟩ := dir_neg h1.1 hx
    rw [cond_true, e1, mv_spec_x (k := k) (by omega) x (mSize kd) s1 s2 _ _ _ _ _ _ _ _ _ _ _ _ e2, e3]
    simp only
    cases hy : ilss vy 0 with
    | true =>
      obtain ⟨g1, g2, g3⟩ := dir_neg h2.1 hy
      rw [cond_true, g1, mv_spec_y (k := k) (by omega) x (mSize kd) s1 s2 _ _ _ _ _ _ _ _ _ _ _ _ g2, g3]
    | false =>
      obtain ⟨g1, g2, g3⟩ := dir_pos h2.2 hy
      rw [cond_false, g3]
      conv => lhs; arg 2; rw [g1]
      rw [mv_spec_y (k := k) (by omega) x (mSize kd) s1 s2 _ _ _ _ _ _ _ _ _ _ _ _ g2, <- g1]
  | false =>
    obtain ⟨e1, e2, e3⟩ := dir_pos h1.2 hx
    rw [cond_false, e3]
    conv => lhs; arg 2; rw [e1]
    rw [mv_spec_x (k := k) (by omega) x (mSize kd) s1 s2 _ _ _ _ _ _ _ _ _ _ _ _ e2, <- e1]
    simp only
    cases hy : ilss vy 0 with
    | true =>
      obtain ⟨g1, g2, g3⟩ := dir_neg h2.1 hy
      rw [cond_true, g1, mv_spec_y (k := k) (by omega) x (mSize kd) s1 s2 _ _ _ _ _ _ _ _ _ _ _ _ g2, g3]
    | false =>
      obtain ⟨g1, g2, g3⟩ := dir_pos h2.2 hy
      rw [cond_false, g3]
      conv => lhs; arg 2; rw [g1]
      rw [mv_spec_y (k := k) (by omega) x (mSize kd) s1 s2 _ _ _ _ _ _ _ _ _ _ _ _ g2, <- g1]
theorem L_impl_direction {k : Nat} (hk : 1 <= k) (v : Int) (h1 : -15 <= v) (h2 : v <= 15) : c_impl_direction (C k) v = some ((mDir v).1, (((mDir v).2 : Nat) : Int)) /\ (mDir v).2 <= 15 := by
  obtain ⟨k, rfl⟩ := pk (by omega)
  rw [u_impl_direction]
  cases h : ilss v 0 with
  | true =>
    obtain ⟨e1, e2, e3⟩ := dir_neg h1 h
    simp only [impl_direction, h, cond_true, e1, e3]
    exact ⟨by first | rfl | trivial, e2⟩
  | false =>
    obtain ⟨e1, e2, e3⟩ := dir_pos h2 h
    simp only [impl_direction, h, cond_false, e3]
    exact ⟨by rw [<- e1], e2⟩
theorem L_impl_MoveBody {k : Nat} (hk : 4 <= k) (x : List ByteArray) (hx : mLevel x = true) (b : TBody) (hb : mIn b.1 0 2 = true) (h0 : mSolid x b.2.2.1 b.2.2.2.1 (mSize b.1) = false) (h1 : -15 <= b.2.2.2.2.1 /\ b.2.2.2.2.1 <= 15) (h2 : -15 <= b.2.2.2.2.2.1 /\ b.2.2.2.2.2.1 <= 15) : c_impl_MoveBody (C k) (x, b) = some (mMove x b) := by
  obtain ⟨k, rfl⟩ := pk (by omega)
  rw [u_impl_MoveBody]
  obtain ⟨kd, ow, px, py, vx, vy, am, lf, tm⟩ := b
  obtain ⟨s1, s2⟩ := mSize_of hb
  simp only at h0 h1 h2 s1 s2
  obtain ⟨dx, mx⟩ := L_impl_direction (k := k) (by omega) vx h1.1 h1.2
  obtain ⟨dy, my⟩ := L_impl_direction (k := k) (by omega) vy h2.1 h2.2
  have c1 : mIn vx (-15) 15 = true := mIn_iff.2 h1
  have c2 : mIn vy (-15) 15 = true := mIn_iff.2 h2
  simp only [impl_MoveBody, L_impl_SizeOf (k := k) (by omega), bnd_some, L_impl_SolidAt (k := k) (by omega) x hx px py (mSize kd) s1 s2, h0, L_impl_between (k := k) (by omega), c1, c2, Bool.not_true, cond_false, dx, dy]
  refine (mv_impl_x (k := k) (by omega) x hx (mSize kd) s1 s2 _ _ _ _ _ _ _ _ _ _ _ (mDir vx).2 mx (mDir vx).2 0 (by omega) px).trans ?_
  simp only [dy, bnd_some]
  refine (mv_impl_y (k := k) (by omega) x hx (mSize kd) s1 s2 _ _ _ _ _ _ _ _ _ _ _ (mDir vy).2 my (mDir vy).2 0 (by omega) py).trans ?_
  rfl
theorem L_impl_MoveBody0 {k : Nat} (hk : 4 <= k) (x : List ByteArray) (hx : mLevel x = true) (b : TBody) (hb : mIn b.1 0 2 = true) (h1 : b.2.2.2.2.1 = 0) (h2 : b.2.2.2.2.2.1 = 0) : c_impl_MoveBody (C k) (x, b) = some (mMove x b) := by
  cases h0 : mSolid x b.2.2.1 b.2.2.2.1 (mSize b.1) with
  | false => exact L_impl_MoveBody hk x hx b hb h0 (by omega) (by omega)
  | true =>
    obtain ⟨k, rfl⟩ := pk (by omega)
    rw [u_impl_MoveBody]
    obtain ⟨kd, ow, px, py, vx, vy, am, lf, tm⟩ := b
    obtain ⟨s1, s2⟩ := mSize_of hb
    simp only at h0 h1 h2 s1 s2
    subst h1 h2
    simp only [impl_MoveBody, L_impl_SizeOf (k := k) (by omega), bnd_some, L_impl_SolidAt (k := k) (by omega) x hx px py (mSize kd) s1 s2, h0, cond_true]
    rfl
def mSteerT (tm : Int) : Int := bif igtr tm 0 then w64 (tm - 1) else tm
def mSteer (x : List ByteArray) (b : TBody) (i : Int) : TBody × Bool :=
  ((b.1, b.2.1, b.2.2.1, b.2.2.2.1, (bif !ieql (iand .i64 i 1) 0 && ieql (iand .i64 i 2) 0 then -3 else bif !ieql (iand .i64 i 2) 0 && ieql (iand .i64 i 1) 0 then 3 else 0),
    (bif !ieql (iand .i64 i 4) 0 && mSolid x b.2.2.1 (w64 (b.2.2.2.1 + 1)) (mSize 0) then -9 else imin (w64 (b.2.2.2.2.2.1 + 1)) 8),
    (bif !ieql (iand .i64 i 1) 0 && ieql (iand .i64 i 2) 0 then -1 else bif !ieql (iand .i64 i 2) 0 && ieql (iand .i64 i 1) 0 then 1 else b.2.2.2.2.2.2.1),
    b.2.2.2.2.2.2.2.1, (bif !ieql (iand .i64 i 8) 0 && ieql (mSteerT b.2.2.2.2.2.2.2.2) 0 then 12 else mSteerT b.2.2.2.2.2.2.2.2)), !ieql (iand .i64 i 8) 0 && ieql (mSteerT b.2.2.2.2.2.2.2.2) 0)
theorem L_spec_l02Steer {k : Nat} (hk : 3 <= k) (x : List ByteArray) (b : TBody) (i : Int) (hb : b.1 = 0) : c_spec_l02Steer (C k) (x, b, i) = some (mSteer x b i) := by
  obtain ⟨k, rfl⟩ := pk (by omega)
  rw [u_spec_l02Steer]
  obtain ⟨kd, ow, px, py, vx, vy, am, lf, tm⟩ := b
  simp only at hb
  subst hb
  simp only [spec_l02Steer, L_spec_SizeOf (k := k) (by omega), bnd_some, L_spec_l02Solid (k := k) (by omega) x px (w64 (py + 1)) (mSize 0) (by decide) (by decide), mSteer, mSteerT, ineq_not, some_bif]
  generalize mSolid x px (w64 (py + 1)) (mSize 0) = sol
  generalize ieql (iand .i64 i 1) 0 = q1
  generalize ieql (iand .i64 i 2) 0 = q2
  generalize ieql (iand .i64 i 4) 0 = q4
  generalize ieql (iand .i64 i 8) 0 = q8
  cases igtr tm 0 with
  | true =>
    simp only [cond_true]
    generalize ieql (w64 (tm - 1)) 0 = t0
    cases q1 <;> cases q2 <;> cases q4 <;> cases sol <;> cases q8 <;> cases t0 <;> rfl
  | false =>
    simp only [cond_false]
    generalize ieql tm 0 = t0
    cases q1 <;> cases q2 <;> cases q4 <;> cases sol <;> cases q8 <;> cases t0 <;> rfl
theorem L_impl_SteerPlayer {k : Nat} (hk : 5 <= k) (x : List ByteArray) (hx : mLevel x = true) (b : TBody) (i : Int) (hb : b.1 = 0) (hlf : 1 <= b.2.2.2.2.2.2.2.1) (ho : 0 <= b.2.1 /\ b.2.1 <= 3) (hi : mIn i 0 15 = true) (hbo : mBody x (b.2.1 + 1) b = true) : c_impl_SteerPlayer (C k) (x, b, i) = some (mSteer x b i) := by
  obtain ⟨k, rfl⟩ := pk (by omega)
  rw [u_impl_SteerPlayer]
  obtain ⟨kd, ow, px, py, vx, vy, am, lf, tm⟩ := b
  simp only at hb hlf ho hbo
  subst hb
  have g1 : ilss lf 1 = false := by simp only [ilss, decide_eq_false_iff_not]; omega
  have g2 : mIn ow 0 3 = true := mIn_iff.2 ho
  have g3 : ineq 0 0 = false := rfl
  simp only [impl_SteerPlayer, L_impl_LevelOk (k := k) (by omega), L_impl_between (k := k) (by omega), L_impl_BodyOk (k := k) (by omega), bnd_some, hx, g1, g2, g3, hi, w64_id (x := ow + 1) (by omega) (by omega), hbo, Bool.not_true, cond_false, Bool.and_self, L_impl_SizeOf (k := k) (by omega), L_impl_SolidAt (k := k) (by omega) x hx px (w64 (py + 1)) (mSize 0) (by decide) (by decide), mSteer, mSteerT, ineq_not, some_bif]
  generalize mSolid x px (w64 (py + 1)) (mSize 0) = sol
  generalize ieql (iand .i64 i 1) 0 = q1
  generalize ieql (iand .i64 i 2) 0 = q2
  generalize ieql (iand .i64 i 4) 0 = q4
  generalize ieql (iand .i64 i 8) 0 = q8
  cases igtr tm 0 with
  | true =>
    simp only [cond_true]
    generalize ieql (w64 (tm - 1)) 0 = t0
    cases q1 <;> cases q2 <;> cases q4 <;> cases sol <;> cases q8 <;> cases t0 <;> rfl
  | false =>
    simp only [cond_false]
    generalize ieql tm 0 = t0
    cases q1 <;> cases q2 <;> cases q4 <;> cases sol <;> cases q8 <;> cases t0 <;> rfl
end Go.Proofs.YtaflceohlijekaaGreat.Ev
namespace Go.Proofs.YtaflceohlijekaaGreat.Ev
def nFold {S : Type} (f : Nat -> S -> S) : Nat -> Nat -> S -> S
  | 0, _, s => s
  | d + 1, n, s => nFold f d (n + 1) (f n s)
section
variable {V R S : Type} {body : V -> (V -> Option R) -> Option R}
theorem loop_nA (N : Nat) (st : Nat -> S -> V) (I : Nat -> S -> Prop) (f : Nat -> S -> S) (K : S -> Option R)
    (h : ∀ n s, n < N -> I n s -> (∀ ag, body (st n s) ag = ag (st (n + 1) (f n s))) /\ I (n + 1) (f n s))
    (he : ∀ s, I N s -> ∀ ag, body (st N s) ag = K s) : ∀ (d n : Nat) (s : S), n + d = N -> I n s -> loopW body (st n s) = K (nFold f d n s) /\ I N (nFold f d n s)
  | 0, n, s, hn, hi => by
    have : n = N := by omega
    subst this
    exact ⟨loopW_stop (he s hi), hi⟩
  | d + 1, n, s, hn, hi => by
    obtain ⟨h1, h2⟩ := h n s (by omega) hi
    rw [loopW_step h1]
    exact loop_nA N st I f K h he d (n + 1) _ (by omega) h2
theorem loop_nI (N : Nat) (st : Nat -> S -> V) (I : Nat -> S -> Prop) (f : Nat -> S -> S) (K : S -> Option R) (s : S) (hi : I 0 s) (v : V) (hv : v = st 0 s)
    (h : ∀ n s, n < N -> I n s -> (∀ ag, body (st n s) ag = ag (st (n + 1) (f n s))) /\ I (n + 1) (f n s))
    (he : ∀ s, I N s -> ∀ ag, body (st N s) ag = K s) : loopW body v = K (nFold f N 0 s) /\ I N (nFold f N 0 s) := by
  subst hv
  exact loop_nA N st I f K h he N 0 s (by omega) hi
end
theorem nFold_I {S : Type} (I : Nat -> S -> Prop) (f : Nat -> S -> S) (N : Nat) (h : ∀ n s, n < N -> I n s -> I (n + 1) (f n s)) : ∀ (d n : Nat) (s : S), n + d = N -> I n s -> I N (nFold f d n s)
  | 0, n, s, hn, hi => by
    have : n = N := by omega
    subst this
    exact hi
  | d + 1, n, s, hn, hi => nFold_I I f N h d (n + 1) _ (by omega) (h n s (by omega) hi)
theorem getD_set {α : Type} (xs : List α) (i j : Nat) (v d : α) : List.getD (xs.set i v) j d = if i = j /\ j < xs.length then v else List.getD xs j d := by
  simp only [List.getD_eq_getElem?_getD, List.getElem?_set]
  by_cases h : i = j
  · subst h
    by_cases h2 : i < xs.length
    · simp [h2]
    · simp [h2]
  · simp [h]
theorem getD_app {α : Type} (xs ys : List α) (j : Nat) (d : α) (h : j < xs.length) : List.getD (xs ++ ys) j d = List.getD xs j d := by
  simp only [List.getD_eq_getElem?_getD, List.getElem?_append_left h]
theorem mSolidN_iff (x : List ByteArray) (p q s : Nat) : mSolidN x p q s = false ↔ ∀ r c, q / 16 <= r -> r <= (q + s - 1) / 16 -> p / 16 <= c -> c <= (p + s - 1) / 16 -> cf x r c = true := by
  unfold mSolidN
  rw [Bool.not_eq_false']
  simp only [List.all_eq_true, List.mem_range]
  constructor
  · intro h r c h1 h2 h3 h4
    have := h (r - q / 16) (by omega) (c - p / 16) (by omega)
    rwa [show q / 16 + (r - q / 16) = r by omega, show p / 16 + (c - p / 16) = c by omega] at this
  · intro h i hi j hj
    exact h _ _ (by omega) (by omega) (by omega) (by omega)
theorem shot_free {x : List ByteArray} (hx : mLevel x = true) {px py : Int} (h : mSolid x px py 12 = false) : mSolid x (px + 4) (py + 4) 4 = false := by
  have hf := mSolid_facts hx (by decide) h
  unfold mSolid at h ⊢
  have e1 : (mIn px 0 1000 && mIn py 0 1000) = true := by rw [Bool.and_eq_true, mIn_iff, mIn_iff]; omega
  have e2 : (mIn (px + 4) 0 1000 && mIn (py + 4) 0 1000) = true := by rw [Bool.and_eq_true, mIn_iff, mIn_iff]; omega
  rw [e1, cond_true] at h
  rw [e2, cond_true]
  rw [mSolidN_iff] at h ⊢
  intro r c h1 h2 h3 h4
  exact h r c (by omega) (by omega) (by omega) (by omega)
structure Bod (x : List ByteArray) (n : Nat) (b : TBody) : Prop where
  kd : mIn b.1 0 2 = true
  vx : -15 <= b.2.2.2.2.1 /\ b.2.2.2.2.1 <= 15
  vy : -15 <= b.2.2.2.2.2.1 /\ b.2.2.2.2.2.1 <= 15
  mv : mSolid x b.2.2.1 b.2.2.2.1 (mSize b.1) = false \/ (b.2.2.2.2.1 = 0 /\ b.2.2.2.2.2.1 = 0)
  ow : 0 <= b.2.1 /\ b.2.1 < (n : Int)
  lf : 0 <= b.2.2.2.2.2.2.2.1
theorem mBody_parts {x : List ByteArray} {n : Int} {b : TBody} (h : mBody x n b = true) : mIn b.1 0 2 = true /\ (0 <= b.2.1 /\ b.2.1 <= n - 1) /\ mSolid x b.2.2.1 b.2.2.2.1 (mSize b.1) = false /\ (-15 <= b.2.2.2.2.1 /\ b.2.2.2.2.1 <= 15) /\ (-15 <= b.2.2.2.2.2.1 /\ b.2.2.2.2.2.1 <= 15) /\
    mBodyRest b.1 b.2.1 b.2.2.2.2.2.2.1 b.2.2.2.2.2.2.2.1 b.2.2.2.2.2.2.2.2 = true := by
  unfold mBody at h
  simp only [Bool.and_eq_true, Bool.not_eq_true'] at h
  obtain ⟨h1, h2, h3, h4, h5, h6⟩ := h
  exact ⟨h1, mIn_iff.1 h2, h3, mIn_iff.1 h4, mIn_iff.1 h5, h6⟩
theorem rest_life {kd ow am lf tm : Int} (h : mBodyRest kd ow am lf tm = true) : 0 <= lf := by
  unfold mBodyRest at h
  cases h0 : ieql kd 0 with
  | true =>
    rw [h0, cond_true, Bool.and_eq_true, Bool.and_eq_true] at h
    exact (mIn_iff.1 h.1.2).1
  | false =>
    rw [h0, cond_false] at h
    cases h1 : ieql kd 1 with
    | true =>
      rw [h1, cond_true] at h
      simp only [Bool.and_eq_true, ieql, beq_iff_eq] at h
      omega
    | false =>
      rw [h1, cond_false] at h
      simp only [Bool.and_eq_true, ieql, beq_iff_eq] at h
      omega
theorem good_of {x : List ByteArray} {n : Nat} {b : TBody} (h : mBody x (n : Int) b = true) : Bod x n b := by
  obtain ⟨h1, h2, h3, h4, h5, h6⟩ := mBody_parts h
  exact ⟨h1, h4, h5, .inl h3, by omega, rest_life h6⟩
theorem mBody_up {x : List ByteArray} {n : Int} {b : TBody} (h : mBody x n b = true) : mBody x (b.2.1 + 1) b = true := by
  obtain ⟨h1, h2, h3, h4, h5, h6⟩ := mBody_parts h
  unfold mBody
  simp only [Bool.and_eq_true, Bool.not_eq_true']
  exact ⟨h1, mIn_iff.2 (by omega), h3, mIn_iff.2 h4, mIn_iff.2 h5, h6⟩
theorem aim_of {ow am lf tm : Int} (h : mBodyRest 0 ow am lf tm = true) : am = 1 \/ am = -1 := by
  have h0 : ieql 0 0 = true := rfl
  unfold mBodyRest at h
  rw [h0, cond_true, Bool.and_eq_true, Bool.and_eq_true, Bool.or_eq_true] at h
  simpa [ieql] using h.1.1
theorem imin_le {a b : Int} : imin a b <= b /\ (imin a b = a \/ imin a b = b) := by
  unfold imin
  split <;> omega
theorem good_steer {x : List ByteArray} {n : Nat} {b : TBody} (i : Int) (hb : b.1 = 0) (h : mBody x (n : Int) b = true) : Bod x n (mSteer x b i).1 := by
  obtain ⟨h1, h2, h3, h4, h5, h6⟩ := mBody_parts h
  have hw : w64 (b.2.2.2.2.2.1 + 1) = b.2.2.2.2.2.1 + 1 := w64_id (by omega) (by omega)
  refine ⟨h1, ?_, ?_, .inl h3, by simp only [mSteer]; omega, rest_life h6⟩
  · simp only [mSteer]
    cases ieql (iand .i64 i 1) 0 <;> cases ieql (iand .i64 i 2) 0 <;> exact ⟨by decide, by decide⟩
  · simp only [mSteer, hw]
    have := @imin_le (b.2.2.2.2.2.1 + 1) 8
    cases (!ieql (iand .i64 i 4) 0 && mSolid x b.2.2.1 (w64 (b.2.2.2.1 + 1)) (mSize 0))
    · rw [cond_false]; omega
    · rw [cond_true]; omega
theorem good_fresh (x : List ByteArray) {n i : Nat} (h : i < n) : Bod x n (mFresh x (i : Int)) :=
  ⟨rfl, ⟨by show (-15 : Int) <= 0; decide, by show (0 : Int) <= 15; decide⟩, ⟨by show (-15 : Int) <= 0; decide, by show (0 : Int) <= 15; decide⟩, .inr ⟨rfl, rfl⟩, by simp only [mFresh]; omega, by show (0 : Int) <= 3; decide⟩
theorem shot_eq {x : List ByteArray} (hx : mLevel x = true) {n : Nat} {b : TBody} (i : Int) (hb : b.1 = 0) (h : mBody x (n : Int) b = true) :
    mShot (mSteer x b i).1 = (1, b.2.1, b.2.2.1 + 4, b.2.2.2.1 + 4, 6 * (mSteer x b i).1.2.2.2.2.2.2.1, 0, 0, 0, 25) /\ (-1 <= (mSteer x b i).1.2.2.2.2.2.2.1 /\ (mSteer x b i).1.2.2.2.2.2.2.1 <= 1) /\ mSolid x b.2.2.1 b.2.2.2.1 12 = false := by
  obtain ⟨h1, h2, h3, h4, h5, h6⟩ := mBody_parts h
  have hs : mSize b.1 = 12 := by rw [hb]; rfl
  rw [hs] at h3
  have hf := mSolid_facts hx (by decide) h3
  rw [hb] at h6
  have ham : -1 <= (mSteer x b i).1.2.2.2.2.2.2.1 /\ (mSteer x b i).1.2.2.2.2.2.2.1 <= 1 := by
    have := aim_of h6
    simp only [mSteer]
    cases ieql (iand .i64 i 1) 0 <;> cases ieql (iand .i64 i 2) 0 <;> simp only [Bool.not_true, Bool.not_false, Bool.and_true, Bool.and_false, cond_true, cond_false, Bool.and_self] <;> omega
  have e : (mIn (mSteer x b i).1.2.2.1 0 1000 && (mIn (mSteer x b i).1.2.2.2.1 0 1000 && mIn (mSteer x b i).1.2.2.2.2.2.2.1 (-1) 1)) = true := by
    rw [Bool.and_eq_true, Bool.and_eq_true, mIn_iff, mIn_iff, mIn_iff]
    refine ⟨?_, ?_, ham⟩
    · show 0 <= b.2.2.1 /\ b.2.2.1 <= 1000
      omega
    · show 0 <= b.2.2.2.1 /\ b.2.2.2.1 <= 1000
      omega
  refine ⟨?_, ham, h3⟩
  unfold mShot
  rw [e, cond_true]
  rfl
theorem shot_kind {x : List ByteArray} (hx : mLevel x = true) {n : Nat} {b : TBody} (i : Int) (hb : b.1 = 0) (h : mBody x (n : Int) b = true) : (mShot (mSteer x b i).1).1 = 1 := by
  rw [(shot_eq hx i hb h).1]
theorem good_shot {x : List ByteArray} (hx : mLevel x = true) {n : Nat} {b : TBody} (i : Int) (hb : b.1 = 0) (h : mBody x (n : Int) b = true) : Bod x n (mShot (mSteer x b i).1) := by
  obtain ⟨h1, h2, h3, h4, h5, h6⟩ := mBody_parts h
  obtain ⟨e1, ham, e3⟩ := shot_eq hx i hb h
  rw [e1]
  refine ⟨rfl, ?_, ⟨by show (-15 : Int) <= 0; decide, by show (0 : Int) <= 15; decide⟩, .inl (shot_free hx e3), ?_, by show (0 : Int) <= 0; decide⟩
  · show -15 <= 6 * (mSteer x b i).1.2.2.2.2.2.2.1 /\ 6 * (mSteer x b i).1.2.2.2.2.2.2.1 <= 15
    omega
  · show 0 <= b.2.1 /\ b.2.1 < (n : Int)
    omega
def mDec (b : TBody) : TBody := (b.1, b.2.1, b.2.2.1, b.2.2.2.1, b.2.2.2.2.1, b.2.2.2.2.2.1, b.2.2.2.2.2.2.1, b.2.2.2.2.2.2.2.1, w64 (b.2.2.2.2.2.2.2.2 - 1))
def mPlB (x : List ByteArray) (i : Nat) (inp : Int) (b : TBody) : TBody :=
  bif ieql b.2.2.2.2.2.2.2.1 0 then (bif ieql (w64 (b.2.2.2.2.2.2.2.2 - 1)) 0 then mFresh x (i : Int) else mDec b) else (mSteer x b inp).1
def mPlX (x : List ByteArray) (inp : Int) (L : Nat) (b : TBody) : List TBody :=
  bif ieql b.2.2.2.2.2.2.2.1 0 then [] else bif (mSteer x b inp).2 && decide (L < 24) then [mShot (mSteer x b inp).1] else []
def mPl (x : List ByteArray) (row : List Int) (i : Nat) (bs : List TBody) : List TBody :=
  bs.set i (mPlB x i (List.getD row i 0) (List.getD bs i dBody)) ++ mPlX x (List.getD row i 0) bs.length (List.getD bs i dBody)
structure PI (x : List ByteArray) (n : Nat) (orig : List TBody) (i : Nat) (bs : List TBody) : Prop where
  lo : n <= bs.length
  hi : bs.length <= 24
  gd : ∀ b ∈ bs, Bod x n b
  kd : ∀ j, j < n -> (List.getD bs j dBody).1 = 0
  og : ∀ j, i <= j -> j < n -> List.getD bs j dBody = List.getD orig j dBody
  nk : ∀ j, n <= j -> j < bs.length -> (List.getD bs j dBody).1 ≠ 0
structure WI (x : List ByteArray) (n : Nat) (bs : List TBody) : Prop where
  lv : mLevel x = true
  n1 : 1 <= n
  n4 : n <= 4
  lo : n <= bs.length
  hi : bs.length <= 24
  ok : ∀ j, j < bs.length -> mBodyAt x n bs j = true
theorem WI.kd {x : List ByteArray} {n : Nat} {bs : List TBody} (h : WI x n bs) {j : Nat} (hj : j < n) : mBody x (n : Int) (List.getD bs j dBody) = true /\ (List.getD bs j dBody).1 = 0 /\ (List.getD bs j dBody).2.1 = (j : Int) := by
  have := h.ok j (Nat.lt_of_lt_of_le hj h.lo)
  unfold mBodyAt at this
  rw [decide_eq_true hj, cond_true] at this
  simpa [Bool.and_eq_true, ieql] using this
theorem WI.start {x : List ByteArray} {n : Nat} {bs : List TBody} (h : WI x n bs) : PI x n bs 0 bs := by
  refine ⟨h.lo, h.hi, fun b hb => ?_, fun j hj => (h.kd hj).2.1, fun _ _ _ => rfl, fun j h1 h2 => ?_⟩
  · obtain ⟨j, hj, rfl⟩ := List.getElem_of_mem hb
    have := h.ok j hj
    unfold mBodyAt at this
    rw [Bool.and_eq_true, getD_lt hj] at this
    exact good_of this.1
  · have := h.ok j h2
    unfold mBodyAt at this
    rw [decide_eq_false (by omega), cond_false, Bool.and_eq_true] at this
    simpa [ieql] using this.2
theorem PI.next {x : List ByteArray} {n : Nat} {orig bs : List TBody} {row : List Int} {i : Nat} (hw : WI x n orig) (h : PI x n orig i bs) (hi : i < n) : PI x n orig (i + 1) (mPl x row i bs) := by
  have hlen : (bs.set i (mPlB x i (List.getD row i 0) (List.getD bs i dBody))).length = bs.length := List.length_set
  have hil : i < bs.length := Nat.lt_of_lt_of_le hi h.lo
  have e : List.getD bs i dBody = List.getD orig i dBody := h.og i (Nat.le_refl _) hi
  obtain ⟨k1, k2, k3⟩ := hw.kd hi
  rw [<- e] at k1 k2 k3
  have hX : mPlX x (List.getD row i 0) bs.length (List.getD bs i dBody) = [] \/ (bs.length < 24 /\ mPlX x (List.getD row i 0) bs.length (List.getD bs i dBody) = [mShot (mSteer x (List.getD bs i dBody) (List.getD row i 0)).1]) := by
    unfold mPlX
    cases ieql (List.getD bs i dBody).2.2.2.2.2.2.2.1 0 with
    | true => exact .inl rfl
    | false =>
      rw [cond_false]
      by_cases hl : bs.length < 24
      · rw [decide_eq_true hl]
        cases (mSteer x (List.getD bs i dBody) (List.getD row i 0)).2 with
        | true => exact .inr ⟨hl, rfl⟩
        | false => exact .inl rfl
      · rw [decide_eq_false hl, Bool.and_false]
        exact .inl rfl
  have hB : Bod x n (mPlB x i (List.getD row i 0) (List.getD bs i dBody)) /\ (mPlB x i (List.getD row i 0) (List.getD bs i dBody)).1 = 0 := by
    unfold mPlB
    cases ieql (List.getD bs i dBody).2.2.2.2.2.2.2.1 0 with
    | true =>
      rw [cond_true]
      cases ieql (w64 ((List.getD bs i dBody).2.2.2.2.2.2.2.2 - 1)) 0 with
      | true => exact ⟨good_fresh x hi, rfl⟩
      | false =>
        obtain ⟨g1, g2, g3, g4, g5, g6⟩ := good_of k1
        exact ⟨⟨g1, g2, g3, g4, g5, g6⟩, k2⟩
    | false => exact ⟨good_steer _ k2 k1, k2⟩
  have hXl : (mPlX x (List.getD row i 0) bs.length (List.getD bs i dBody)).length + bs.length <= 24 := by
    rcases hX with hX | ⟨hl, hX⟩
    · rw [hX]; have := h.hi; simp only [List.length_nil]; omega
    · rw [hX]; simp only [List.length_cons, List.length_nil]; omega
  refine ⟨?_, ?_, ?_, ?_, ?_, ?_⟩
  · unfold mPl
    rw [List.length_append, hlen]
    have := h.lo
    omega
  · unfold mPl
    rw [List.length_append, hlen]
    omega
  · intro b hb
    unfold mPl at hb
    rw [List.mem_append] at hb
    rcases hb with hb | hb
    · rcases List.mem_or_eq_of_mem_set hb with hb | rfl
      · exact h.gd b hb
      · exact hB.1
    · rcases hX with hX | ⟨hl, hX⟩
      · rw [hX] at hb; cases hb
      · rw [hX, List.mem_singleton] at hb
        rw [hb]
        exact good_shot hw.lv _ k2 k1
  · intro j hj
    unfold mPl
    rw [getD_app _ _ _ _ (by rw [hlen]; have := h.lo; omega), getD_set]
    split
    · exact hB.2
    · exact h.kd j hj
  · intro j h1 h2
    unfold mPl
    rw [getD_app _ _ _ _ (by rw [hlen]; have := h.lo; omega), getD_set]
    rw [if_neg (by omega)]
    exact h.og j (by omega) h2
  · intro j h1 h2
    unfold mPl at h2 ⊢
    by_cases h3 : j < bs.length
    · rw [getD_app _ _ _ _ (by rw [hlen]; exact h3), getD_set, if_neg (by omega)]
      exact h.nk j h1 h3
    · rcases hX with hX | ⟨hl, hX⟩
      · rw [hX, List.append_nil, hlen] at h2
        exact absurd h2 h3
      · rw [hX] at h2 ⊢
        rw [List.length_append, hlen] at h2
        simp only [List.length_cons, List.length_nil] at h2
        have : j = bs.length := by omega
        subst this
        have e9 : List.getD (bs.set i (mPlB x i (List.getD row i 0) (List.getD bs i dBody)) ++ [mShot (mSteer x (List.getD bs i dBody) (List.getD row i 0)).1]) bs.length dBody = mShot (mSteer x (List.getD bs i dBody) (List.getD row i 0)).1 := by
          rw [List.getD_eq_getElem?_getD, List.getElem?_append_right (by rw [hlen]; exact Nat.le_refl _), hlen, Nat.sub_self]
          rfl
        rw [e9, shot_kind hw.lv _ k2 k1]
        decide
def mPlayers (x : List ByteArray) (n : Nat) (row : List Int) (bs : List TBody) : List TBody := nFold (mPl x row) n 0 bs
theorem len_set24 (bs : List TBody) (i : Nat) (v : TBody) : ilss (len (bs.set i v)) 24 = decide (bs.length < 24) := by
  simp only [len, List.length_set]
  exact ilss_natd bs.length 24
theorem set_set' {α : Type} (xs : List α) (i : Nat) (v w : α) : (xs.set i v).set i w = xs.set i w := List.set_set _
theorem pl_spec {k : Nat} (hk : 5 <= k) (x : List ByteArray) (n : Nat) (orig : List TBody) (hw : WI x n orig) (row : List Int) (hr : row.length = n) (tk sd : Int) (ss : List Int) (K : (Int × Int × Int × (List TBody) × (List Int) × (List ByteArray) × Unit) -> Option TWorld) :
    loopW (spec_l02Step_l0 (C k) K) (row, (n : Int), 0, tk, sd, orig, ss, x, ()) = K ((n : Int), tk, sd, mPlayers x n row orig, ss, x, ()) /\ PI x n orig n (mPlayers x n row orig) := by
  refine loop_nI n (fun i bs => (row, (n : Int), (i : Int), tk, sd, bs, ss, x, ())) (PI x n orig) (mPl x row) (fun bs => K ((n : Int), tk, sd, bs, ss, x, ())) orig hw.start _ rfl (fun i bs hi hI => ⟨fun ag => ?_, hI.next hw hi⟩) (fun bs hI ag => ?_)
  · have hil : i < bs.length := Nat.lt_of_lt_of_le hi hI.lo
    have e0 : ∀ v, inb (i : Int) (len (bs.set i v)) = true := fun v => inb_nat i (by rw [List.length_set]; exact hil)
    have e1 : inb (i : Int) (len bs) = true := inb_nat i hil
    have e2 : ilss (i : Int) (n : Int) = true := ilss_nat hi
    have e3 : inb (i : Int) (len row) = true := inb_nat i (by omega)
    have e4 : w64 ((i : Int) + 1) = ((i + 1 : Nat) : Int) := w64_nsucc i (by have := hw.n4; omega)
    have e5 : ∀ v, List.getD (bs.set i v) i dBody = v := fun v => by rw [getD_set, if_pos ⟨rfl, hil⟩]
    have e : List.getD bs i dBody = List.getD orig i dBody := hI.og i (Nat.le_refl _) hi
    obtain ⟨k1, k2, k3⟩ := hw.kd hi
    rw [<- e] at k1 k2 k3
    have e6 : ∀ v, room (bs.set i v) [mShot v] 1954687338268 = true := fun v => room_le _ _ _ (by have := hI.hi; simp only [List.length_set, List.length_cons, List.length_nil]; omega)
    simp only [spec_l02Step_l0, Int.toNat_natCast, e0, e1, e2, e3, e4, e5, cond_true, ck_true, L_spec_l02Fresh (k := k) (by omega), L_spec_l02Steer (k := k) (by omega) x _ _ k2, L_spec_ShotOf (k := k) (by omega), bnd_some, some_bif, set_set', len_set24, e6]
    unfold mPl mPlB mPlX
    cases ieql (List.getD bs i dBody).2.2.2.2.2.2.2.1 0 with
    | true => cases ieql (w64 ((List.getD bs i dBody).2.2.2.2.2.2.2.2 - 1)) 0 <;> simp only [cond_true, cond_false, List.append_nil] <;> rfl
    | false =>
      cases (mSteer x (List.getD bs i dBody) (List.getD row i 0)).2 <;> cases decide (bs.length < 24) <;> simp only [cond_true, cond_false, List.append_nil, Bool.and_self, Bool.and_true, Bool.and_false, bnd_some]
  · have e2 : ilss (n : Int) (n : Int) = false := ilss_end _
    simp only [spec_l02Step_l0, e2, cond_false]
theorem pl_impl {k : Nat} (hk : 6 <= k) (x : List ByteArray) (n : Nat) (orig : List TBody) (hw : WI x n orig) (row : List Int) (hr : row.length = n) (hin : mInputs row = true) (tk sd : Int) (ss : List Int) (K : (Int × Int × (List TBody) × (List Int) × (List ByteArray) × Unit) -> Option TWorld) :
    loopW (impl_stepPlayers_l0 (C k) K) (row, (n : Int), 0, tk, sd, orig, ss, x, ()) = K (tk, sd, mPlayers x n row orig, ss, x, ()) := by
  refine (loop_nI n (fun i bs => (row, (n : Int), (i : Int), tk, sd, bs, ss, x, ())) (PI x n orig) (mPl x row) (fun bs => K (tk, sd, bs, ss, x, ())) orig hw.start _ rfl (fun i bs hi hI => ⟨fun ag => ?_, hI.next hw hi⟩) (fun bs hI ag => ?_)).1
  · have hil : i < bs.length := Nat.lt_of_lt_of_le hi hI.lo
    have e0 : ∀ v, inb (i : Int) (len (bs.set i v)) = true := fun v => inb_nat i (by rw [List.length_set]; exact hil)
    have e1 : inb (i : Int) (len bs) = true := inb_nat i hil
    have e2 : ilss (i : Int) (n : Int) = true := ilss_nat hi
    have e3 : inb (i : Int) (len row) = true := inb_nat i (by omega)
    have e4 : w64 ((i : Int) + 1) = ((i + 1 : Nat) : Int) := w64_nsucc i (by have := hw.n4; omega)
    have e5 : ∀ v, List.getD (bs.set i v) i dBody = v := fun v => by rw [getD_set, if_pos ⟨rfl, hil⟩]
    have e : List.getD bs i dBody = List.getD orig i dBody := hI.og i (Nat.le_refl _) hi
    obtain ⟨k1, k2, k3⟩ := hw.kd hi
    rw [<- e] at k1 k2 k3
    have e6 : ∀ v, room (bs.set i v) [mShot v] 1954687338268 = true := fun v => room_le _ _ _ (by have := hI.hi; simp only [List.length_set, List.length_cons, List.length_nil]; omega)
    have hinp : mIn (List.getD row i 0) 0 15 = true := by
      have hir : i < row.length := by omega
      rw [getD_lt hir]
      unfold mInputs at hin
      rw [List.all_eq_true] at hin
      exact hin _ (List.getElem_mem hir)
    simp only [impl_stepPlayers_l0, Int.toNat_natCast, e0, e1, e2, e3, e4, e5, cond_true, ck_true, L_impl_freshPlayer (k := k) (by omega), L_impl_ShotOf (k := k) (by omega), bnd_some, some_bif, set_set', len_set24, e6]
    unfold mPl mPlB mPlX
    cases hlf : ieql (List.getD bs i dBody).2.2.2.2.2.2.2.1 0 with
    | true => cases ieql (w64 ((List.getD bs i dBody).2.2.2.2.2.2.2.2 - 1)) 0 <;> simp only [cond_true, cond_false, List.append_nil] <;> rfl
    | false =>
      have hl1 : 1 <= (List.getD bs i dBody).2.2.2.2.2.2.2.1 := by
        have h0 := rest_life (mBody_parts k1).2.2.2.2.2
        have : (List.getD bs i dBody).2.2.2.2.2.2.2.1 ≠ 0 := by simpa [ieql] using hlf
        omega
      simp only [L_impl_SteerPlayer (k := k) (by omega) x hw.lv _ _ k2 hl1 (by have := hw.n4; omega) hinp (mBody_up k1), bnd_some, e0, e6, ck_true, len_set24, cond_false]
      cases (mSteer x (List.getD bs i dBody) (List.getD row i 0)).2 <;> cases decide (bs.length < 24) <;> simp only [cond_true, cond_false, List.append_nil, Bool.and_self, Bool.and_true, Bool.and_false, bnd_some, ck_true, e6]
  · have e2 : ilss (n : Int) (n : Int) = false := ilss_end _
    simp only [impl_stepPlayers_l0, e2, cond_false]
end Go.Proofs.YtaflceohlijekaaGreat.Ev
namespace Go.Proofs.YtaflceohlijekaaGreat.Ev
def mMv (x : List ByteArray) (n j : Nat) (b : TBody) : List TBody :=
  bif ieql b.1 2 || (decide (j < n) && ieql b.2.2.2.2.2.2.2.1 0) then [b] else
  bif ieql b.1 1 then (bif (mMove x b).2 || ieql (w64 ((mMove x b).1.2.2.2.2.2.2.2.2 - 1)) 0 then [] else [mDec (mMove x b).1]) else [(mMove x b).1]
def mMvs (x : List ByteArray) (n : Nat) (bs : List TBody) (j : Nat) (kept : List TBody) : List TBody := kept ++ mMv x n j (List.getD bs j dBody)
def mMoves (x : List ByteArray) (n : Nat) (bs : List TBody) : List TBody := nFold (mMvs x n bs) bs.length 0 []
structure MI (n : Nat) (j : Nat) (kept : List TBody) : Prop where
  hi : kept.length <= j
  lo : min j n <= kept.length
  ow : ∀ b ∈ kept, 0 <= b.2.1 /\ b.2.1 < (n : Int)
  kd : ∀ i, i < n -> i < kept.length -> (List.getD kept i dBody).1 = 0
theorem mMv_cases (x : List ByteArray) (n j : Nat) (b : TBody) : mMv x n j b = [] /\ ieql b.1 1 = true \/ mMv x n j b = [b] \/ mMv x n j b = [mDec (mMove x b).1] \/ mMv x n j b = [(mMove x b).1] := by
  unfold mMv
  cases ieql b.1 2 || (decide (j < n) && ieql b.2.2.2.2.2.2.2.1 0) with
  | true => exact .inr (.inl rfl)
  | false =>
    rw [cond_false]
    cases h1 : ieql b.1 1 with
    | true =>
      rw [cond_true]
      cases (mMove x b).2 || ieql (w64 ((mMove x b).1.2.2.2.2.2.2.2.2 - 1)) 0 with
      | true => exact .inl ⟨rfl, rfl⟩
      | false => exact .inr (.inr (.inl rfl))
    | false => exact .inr (.inr (.inr rfl))
theorem getD_app2 {α : Type} (xs : List α) (y : α) (d : α) : List.getD (xs ++ [y]) xs.length d = y := by
  rw [List.getD_eq_getElem?_getD, List.getElem?_append_right (Nat.le_refl _), Nat.sub_self]
  rfl
theorem MI.next {x : List ByteArray} {n : Nat} {bs kept : List TBody} {j : Nat} (hj : j < bs.length) (hg : ∀ b ∈ bs, Bod x n b) (hk : ∀ j, j < n -> (List.getD bs j dBody).1 = 0) (h : MI n j kept) : MI n (j + 1) (mMvs x n bs j kept) := by
  have hb : List.getD bs j dBody ∈ bs := by rw [getD_lt hj]; exact List.getElem_mem hj
  have hB := hg _ hb
  have key : ∀ b : TBody, b.2.1 = (List.getD bs j dBody).2.1 -> b.1 = (List.getD bs j dBody).1 -> MI n (j + 1) (kept ++ [b]) := by
    intro b e1 e2
    refine ⟨?_, ?_, ?_, ?_⟩
    · rw [List.length_append]; have := h.hi; simp only [List.length_cons, List.length_nil]; omega
    · rw [List.length_append]; have := h.lo; simp only [List.length_cons, List.length_nil]; omega
    · intro c hc
      rw [List.mem_append] at hc
      rcases hc with hc | hc
      · exact h.ow c hc
      · rw [List.mem_singleton] at hc
        rw [hc, e1]
        exact hB.ow
    · intro i h1 h2
      by_cases h3 : i < kept.length
      · rw [getD_app _ _ _ _ h3]
        exact h.kd i h1 h3
      · rw [List.length_append] at h2
        simp only [List.length_cons, List.length_nil] at h2
        have h4 : i = kept.length := by omega
        subst h4
        rw [getD_app2, e2]
        have h5 := h.lo
        have h6 := h.hi
        have h7 : kept.length = j := by omega
        rw [h7] at h1
        exact hk j h1
  unfold mMvs
  rcases mMv_cases x n j (List.getD bs j dBody) with ⟨e, e1⟩ | e | e | e
  · rw [e, List.append_nil]
    have hn : n <= j := by
      by_cases hjn : j < n
      · rw [hk j hjn] at e1
        cases e1
      · omega
    exact ⟨by have := h.hi; omega, by have := h.lo; omega, h.ow, h.kd⟩
  · rw [e]; exact key _ rfl rfl
  · rw [e]; exact key _ rfl rfl
  · rw [e]; exact key _ rfl rfl
theorem room_one (xs : List TBody) (y : TBody) (h : xs.length <= 1000) : room xs [y] 1954687338268 = true := room_le _ _ _ (by simp only [List.length_cons, List.length_nil]; omega)
theorem mv_spec {k : Nat} (hk : 3 <= k) (x : List ByteArray) (n : Nat) (bs : List TBody) (hl : bs.length <= 24) (hg : ∀ b ∈ bs, Bod x n b) (hkd : ∀ j, j < n -> (List.getD bs j dBody).1 = 0) (tk sd : Int) (ss : List Int) (K : (Int × Int × Int × (List TBody) × (List TBody) × (List Int) × (List ByteArray) × Unit) -> Option TWorld) :
    loopW (spec_l02Step_l2 (C k) K) ((n : Int), 0, tk, sd, [], bs, ss, x, ()) = K ((n : Int), tk, sd, mMoves x n bs, bs, ss, x, ()) /\ MI n bs.length (mMoves x n bs) := by
  refine loop_nI bs.length (fun j kept => ((n : Int), (j : Int), tk, sd, kept, bs, ss, x, ())) (MI n) (mMvs x n bs) (fun kept => K ((n : Int), tk, sd, kept, bs, ss, x, ())) [] ⟨by simp, by simp, by simp, by simp⟩ _ rfl (fun j kept hj hI => ⟨fun ag => ?_, hI.next hj hg hkd⟩) (fun kept hI ag => ?_)
  · have e1 : inb (j : Int) (len bs) = true := inb_nat j hj
    have e2 : ilss (j : Int) (len bs) = true := ilss_nat hj
    have e4 : w64 ((j : Int) + 1) = ((j + 1 : Nat) : Int) := w64_nsucc j (by omega)
    have hb : List.getD bs j dBody ∈ bs := by rw [getD_lt hj]; exact List.getElem_mem hj
    have hB := hg _ hb
    have e6 : ∀ v, room kept [v] 1954687338268 = true := fun v => room_one _ _ (by have := hI.hi; omega)
    simp only [spec_l02Step_l2, Int.toNat_natCast, e1, e2, e4, e6, cond_true, ck_true, ilss_natd j n, L_spec_l02Move (k := k) (by omega) x _ hB.kd hB.vx hB.vy, bnd_some, some_bif]
    unfold mMvs mMv
    cases ieql (List.getD bs j dBody).1 2 with
    | true => rfl
    | false =>
      cases decide (j < n) <;> cases ieql (List.getD bs j dBody).2.2.2.2.2.2.2.1 0 <;> cases ieql (List.getD bs j dBody).1 1 <;> cases (mMove x (List.getD bs j dBody)).2 <;> cases ieql (w64 ((mMove x (List.getD bs j dBody)).1.2.2.2.2.2.2.2.2 - 1)) 0 <;> simp only [cond_true, cond_false, Bool.or_false, Bool.or_true, Bool.false_and, Bool.and_self, Bool.and_true, Bool.and_false, bnd_some, List.append_nil, mDec, Bool.or_self]
  · have e2 : ilss (bs.length : Int) (len bs) = false := ilss_end _
    simp only [spec_l02Step_l2, e2, cond_false]
theorem L_move_any {k : Nat} (hk : 4 <= k) {x : List ByteArray} (hx : mLevel x = true) {n : Nat} {b : TBody} (hB : Bod x n b) : c_impl_MoveBody (C k) (x, b) = some (mMove x b) := by
  rcases hB.mv with h | ⟨h1, h2⟩
  · exact L_impl_MoveBody hk x hx b hB.kd h hB.vx hB.vy
  · exact L_impl_MoveBody0 hk x hx b hB.kd h1 h2
theorem life_pos0 {lf : Int} (h : 0 <= lf) : igtr lf 0 = !ieql lf 0 := by
  simp only [igtr, ieql]
  by_cases hz : lf = 0
  · subst hz; rfl
  · have : lf > 0 := by omega
    simp [this, hz]
theorem mv_impl {k : Nat} (hk : 4 <= k) (x : List ByteArray) (hx : mLevel x = true) (n : Nat) (bs : List TBody) (hl : bs.length <= 24) (hg : ∀ b ∈ bs, Bod x n b) (hkd : ∀ j, j < n -> (List.getD bs j dBody).1 = 0) (hnk : ∀ j, n <= j -> j < bs.length -> (List.getD bs j dBody).1 ≠ 0) (tk sd : Int) (ss : List Int) (K : (Int × Int × (List TBody) × (List TBody) × (List Int) × (List ByteArray) × Unit) -> Option TWorld) :
    loopW (impl_stepMoves_l0 (C k) K) (len bs, 0, tk, sd, [], bs, ss, x, ()) = K (tk, sd, mMoves x n bs, bs, ss, x, ()) := by
  refine (loop_nI bs.length (fun j kept => (len bs, (j : Int), tk, sd, kept, bs, ss, x, ())) (MI n) (mMvs x n bs) (fun kept => K (tk, sd, kept, bs, ss, x, ())) [] ⟨by simp, by simp, by simp, by simp⟩ _ rfl (fun j kept hj hI => ⟨fun ag => ?_, hI.next hj hg hkd⟩) (fun kept hI ag => ?_)).1
  · have e1 : inb (j : Int) (len bs) = true := inb_nat j hj
    have e2 : ilss (j : Int) (len bs) = true := ilss_nat hj
    have e4 : w64 ((j : Int) + 1) = ((j + 1 : Nat) : Int) := w64_nsucc j (by omega)
    have hb : List.getD bs j dBody ∈ bs := by rw [getD_lt hj]; exact List.getElem_mem hj
    have hB := hg _ hb
    have e6 : ∀ v, room kept [v] 1954687338268 = true := fun v => room_one _ _ (by have := hI.hi; omega)
    have hlf := life_pos0 hB.lf
    have hkk : (List.getD bs j dBody).1 = 0 /\ j < n \/ ((List.getD bs j dBody).1 = 1 \/ (List.getD bs j dBody).1 = 2) /\ ¬ j < n := by
      by_cases hjn : j < n
      · exact .inl ⟨hkd j hjn, hjn⟩
      · have h1 := hnk j (by omega) hj
        have h2 := mIn_iff.1 hB.kd
        exact .inr ⟨by omega, hjn⟩
    simp only [impl_stepMoves_l0, Int.toNat_natCast, e1, e2, e4, e6, cond_true, ck_true, L_move_any (k := k) (by omega) hx hB, bnd_some, some_bif, hlf]
    unfold mMvs mMv
    rcases hkk with ⟨h1, h2⟩ | ⟨h1 | h1, h2⟩
    · rw [h1, decide_eq_true h2, show ieql 0 2 = false from rfl, show ieql 0 1 = false from rfl, show ieql 0 0 = true from rfl]
      cases ieql (List.getD bs j dBody).2.2.2.2.2.2.2.1 0 <;> rfl
    · rw [h1, decide_eq_false h2, show ieql 1 2 = false from rfl, show ieql 1 1 = true from rfl, show ieql 1 0 = false from rfl]
      cases (mMove x (List.getD bs j dBody)).2 <;> cases ieql (w64 ((mMove x (List.getD bs j dBody)).1.2.2.2.2.2.2.2.2 - 1)) 0 <;> simp only [cond_true, cond_false, Bool.or_false, Bool.or_true, Bool.false_and, Bool.and_self, Bool.and_true, Bool.and_false, bnd_some, List.append_nil, mDec, Bool.or_self, ieql, decide_true, decide_false, Bool.false_or, Bool.or_self]
    · rw [h1, decide_eq_false h2, show ieql 2 2 = true from rfl, show ieql 2 1 = false from rfl, show ieql 2 0 = false from rfl]
      rfl
  · have e2 : ilss (bs.length : Int) (len bs) = false := ilss_end _
    simp only [impl_stepMoves_l0, e2, cond_false]
def mMeetAt (bs : List TBody) (b : TBody) (but : Int) (j : Nat) : Bool := ineq (j : Int) but && (igtr (List.getD bs j dBody).2.2.2.2.2.2.2.1 0 && mMeet (List.getD bs j dBody) b)
def mMeetF (bs : List TBody) (b : TBody) (but : Int) (j : Nat) (_ : Unit) : Sum Int Unit := bif mMeetAt bs b but j then .inl (j : Int) else .inr ()
def mMeets (n : Nat) (bs : List TBody) (b : TBody) (but : Int) : Int := match sFold (mMeetF bs b but) n 0 () with | .inl r => r | .inr _ => -1
theorem meets_range_go (bs : List TBody) (b : TBody) (but : Int) : ∀ (d n : Nat), (∃ j, n <= j /\ j < n + d /\ sFold (mMeetF bs b but) d n () = .inl ((j : Nat) : Int)) \/ sFold (mMeetF bs b but) d n () = .inr ()
  | 0, n => .inr rfl
  | d + 1, n => by
    simp only [sFold]
    cases h : mMeetAt bs b but n with
    | true =>
      refine .inl ⟨n, Nat.le_refl _, by omega, ?_⟩
      simp only [mMeetF, h, cond_true]
    | false =>
      simp only [mMeetF, h, cond_false]
      rcases meets_range_go bs b but d (n + 1) with ⟨j, h1, h2, h3⟩ | h3
      · exact .inl ⟨j, by omega, by omega, h3⟩
      · exact .inr h3
theorem meets_range (n : Nat) (bs : List TBody) (b : TBody) (but : Int) : mMeets n bs b but = -1 \/ ∃ j, j < n /\ mMeets n bs b but = ((j : Nat) : Int) := by
  unfold mMeets
  rcases meets_range_go bs b but n 0 with ⟨j, h1, h2, h3⟩ | h3
  · rw [h3]; exact .inr ⟨j, by omega, rfl⟩
  · rw [h3]; exact .inl rfl
theorem meets_congr (n : Nat) (bs bs' : List TBody) (b : TBody) (but : Int) (h : ∀ j, j < n -> List.getD bs j dBody = List.getD bs' j dBody) : mMeets n bs b but = mMeets n bs' b but := by
  have : ∀ d m, m + d = n -> sFold (mMeetF bs b but) d m () = sFold (mMeetF bs' b but) d m () := by
    intro d
    induction d with
    | zero => intro m _; rfl
    | succ d ih =>
      intro m hm
      simp only [sFold, mMeetF, mMeetAt, h m (by omega)]
      cases ineq (m : Int) but && (igtr (List.getD bs' m dBody).2.2.2.2.2.2.2.1 0 && mMeet (List.getD bs' m dBody) b) with
      | true => rfl
      | false => exact ih (m + 1) (by omega)
  unfold mMeets
  rw [this n 0 (by omega)]
theorem L_spec_l02Meets {k : Nat} (hk : 3 <= k) (w : TWorld) (b : TBody) (but : Int) (h1 : w.2.2.2.1.length <= w.2.2.2.2.length) (h2 : w.2.2.2.1.length <= 1000) : c_spec_l02Meets (C k) (w, b, but) = some (mMeets w.2.2.2.1.length w.2.2.2.2 b but) := by
  obtain ⟨k, rfl⟩ := pk (by omega)
  rw [u_spec_l02Meets]
  refine (loop_sum w.2.2.2.1.length (fun j (s : Unit) => (w, but, (j : Int), b.1, b.2.1, b.2.2.1, b.2.2.2.1, b.2.2.2.2.1, b.2.2.2.2.2.1, b.2.2.2.2.2.2.1, b.2.2.2.2.2.2.2.1, b.2.2.2.2.2.2.2.2, ())) (mMeetF w.2.2.2.2 b but) (fun _ => some (-1)) () _ rfl (fun j s hj ag => ?_) (fun s ag => ?_)).trans ?_
  · have e1 : inb (j : Int) (len w.2.2.2.2) = true := inb_nat j (by omega)
    have e2 : ilss (j : Int) (len w.2.2.2.1) = true := ilss_nat hj
    have e4 : w64 ((j : Int) + 1) = ((j + 1 : Nat) : Int) := w64_nsucc j (by omega)
    have em : c_spec_BodiesMeet (C k) (List.getD w.2.2.2.2 j dBody, b.1, b.2.1, b.2.2.1, b.2.2.2.1, b.2.2.2.2.1, b.2.2.2.2.2.1, b.2.2.2.2.2.2.1, b.2.2.2.2.2.2.2.1, b.2.2.2.2.2.2.2.2) = some (mMeet (List.getD w.2.2.2.2 j dBody) b) := L_spec_BodiesMeet (k := k) (by omega) _ b
    simp only [spec_l02Meets_l0, Int.toNat_natCast, e1, e2, e4, cond_true, ck_true, em, bnd_some, some_bif, mMeetF, mMeetAt]
    cases ineq (j : Int) but <;> cases igtr (List.getD w.2.2.2.2 j dBody).2.2.2.2.2.2.2.1 0 <;> cases mMeet (List.getD w.2.2.2.2 j dBody) b <;> rfl
  · have e2 : ilss (w.2.2.2.1.length : Int) (len w.2.2.2.1) = false := ilss_end _
    simp only [spec_l02Meets_l0, e2, cond_false]
  · unfold mMeets
    cases sFold (mMeetF w.2.2.2.2 b but) w.2.2.2.1.length 0 () <;> rfl
theorem L_impl_playerMet {k : Nat} (hk : 3 <= k) (w : TWorld) (b : TBody) (but : Int) (h1 : w.2.2.2.1.length <= w.2.2.2.2.length) (h2 : w.2.2.2.1.length <= 1000) : c_impl_playerMet (C k) (w, b, but) = some (mMeets w.2.2.2.1.length w.2.2.2.2 b but) := by
  obtain ⟨k, rfl⟩ := pk (by omega)
  rw [u_impl_playerMet]
  refine (loop_sum w.2.2.2.1.length (fun j (s : Unit) => (w, but, len w.2.2.2.1, (j : Int), b.1, b.2.1, b.2.2.1, b.2.2.2.1, b.2.2.2.2.1, b.2.2.2.2.2.1, b.2.2.2.2.2.2.1, b.2.2.2.2.2.2.2.1, b.2.2.2.2.2.2.2.2, ())) (mMeetF w.2.2.2.2 b but) (fun _ => some (-1)) () _ rfl (fun j s hj ag => ?_) (fun s ag => ?_)).trans ?_
  · have e1 : inb (j : Int) (len w.2.2.2.2) = true := inb_nat j (by omega)
    have e2 : ilss (j : Int) (len w.2.2.2.1) = true := ilss_nat hj
    have e4 : w64 ((j : Int) + 1) = ((j + 1 : Nat) : Int) := w64_nsucc j (by omega)
    have em : c_impl_BodiesMeet (C k) (List.getD w.2.2.2.2 j dBody, b.1, b.2.1, b.2.2.1, b.2.2.2.1, b.2.2.2.2.1, b.2.2.2.2.2.1, b.2.2.2.2.2.2.1, b.2.2.2.2.2.2.2.1, b.2.2.2.2.2.2.2.2) = some (mMeet (List.getD w.2.2.2.2 j dBody) b) := L_impl_BodiesMeet (k := k) (by omega) _ b
    simp only [impl_playerMet_l0, Int.toNat_natCast, e1, e2, e4, cond_true, ck_true, em, bnd_some, some_bif, mMeetF, mMeetAt]
    cases ineq (j : Int) but <;> cases igtr (List.getD w.2.2.2.2 j dBody).2.2.2.2.2.2.2.1 0 <;> cases mMeet (List.getD w.2.2.2.2 j dBody) b <;> rfl
  · have e2 : ilss (w.2.2.2.1.length : Int) (len w.2.2.2.1) = false := ilss_end _
    simp only [impl_playerMet_l0, e2, cond_false]
  · unfold mMeets
    cases sFold (mMeetF w.2.2.2.2 b but) w.2.2.2.1.length 0 () <;> rfl
def mPoint (ss : List Int) (who : Int) : List Int := ss.set who.toNat (imin (w64 (List.getD ss who.toNat 0 + 1)) 1000000)
theorem L_spec_l02Point {k : Nat} (hk : 1 <= k) (w : TWorld) (who : Int) (h : 0 <= who /\ who < (w.2.2.2.1.length : Int)) : c_spec_l02Point (C k) (w, who) = some (w.1, w.2.1, w.2.2.1, mPoint w.2.2.2.1 who, w.2.2.2.2) := by
  obtain ⟨k, rfl⟩ := pk (by omega)
  rw [u_spec_l02Point]
  have e : inb who (len w.2.2.2.1) = true := by
    simp only [inb, Bool.and_eq_true, decide_eq_true_eq]
    exact h
  simp only [spec_l02Point, e, ck_true, mPoint]
theorem L_impl_addScore {k : Nat} (hk : 1 <= k) (ss : List Int) (who : Int) (h : 0 <= who /\ who < (ss.length : Int)) (hs : ∀ s ∈ ss, 0 <= s /\ s <= 1000000) : c_impl_addScore (C k) (ss, who) = some (mPoint ss who) := by
  obtain ⟨k, rfl⟩ := pk (by omega)
  rw [u_impl_addScore]
  have e : inb who (len ss) = true := by
    simp only [inb, Bool.and_eq_true, decide_eq_true_eq]
    exact h
  have hlt : who.toNat < ss.length := by omega
  have hr := hs _ (List.getElem_mem hlt)
  simp only [impl_addScore, e, ck_true, mPoint, getD_lt hlt]
  have hw : w64 (ss[who.toNat] + 1) = ss[who.toNat] + 1 := w64_id (by omega) (by omega)
  rw [hw]
  by_cases hc : ss[who.toNat] < 1000000
  · have e1 : ilss ss[who.toNat] 1000000 = true := by simpa [ilss] using hc
    rw [e1, cond_true]
    congr 2
    unfold imin
    split <;> omega
  · have e1 : ilss ss[who.toNat] 1000000 = false := by simpa [ilss] using hc
    rw [e1, cond_false]
    have e2 : imin (ss[who.toNat] + 1) 1000000 = ss[who.toNat] := by
      unfold imin
      split <;> omega
    rw [e2, List.set_getElem_self]
theorem mPoint_len (ss : List Int) (who : Int) : (mPoint ss who).length = ss.length := List.length_set
theorem mPoint_ok {ss : List Int} {who : Int} (hs : ∀ s ∈ ss, 0 <= s /\ s <= 1000000) : ∀ s ∈ mPoint ss who, 0 <= s /\ s <= 1000000 := by
  intro s h
  unfold mPoint at h
  rcases List.mem_or_eq_of_mem_set h with h | rfl
  · exact hs s h
  · by_cases hlt : who.toNat < ss.length
    · rw [getD_lt hlt]
      have hr := hs _ (List.getElem_mem hlt)
      rw [w64_id (by omega) (by omega)]
      unfold imin
      split <;> omega
    · have : List.getD ss who.toNat 0 = 0 := by
        rw [List.getD_eq_getElem?_getD, List.getElem?_eq_none (by omega)]
        rfl
      rw [this]
      exact ⟨by decide, by decide⟩
end Go.Proofs.YtaflceohlijekaaGreat.Ev
