/- A part of the proof that for every match and every number, the program's JudgeWatcher answers as the specification's JudgeWatcher does, and leaves its arguments as they were; there is no condition. -/
import Derived.Test.YtaflceohlijekaaGreatEvB
import Derived.Laws.CopyRow
import Derived.Laws.IdiomCopy
import Derived.Below
import Derived.Laws.Entries
import Derived.Laws.Cells
import Derived.Laws.StructEq
set_option linter.unusedVariables false
set_option linter.unusedSimpArgs false
namespace Go.Proofs.YtaflceohlijekaaGreat.Ev
theorem flat_length : ∀ (s : Sh) (x : s.T), (flat s x).length = s.n
  | .int _, _ => rfl | .bool, _ => rfl | .str, _ => rfl | .unit, _ => rfl | .sl _, _ => rfl
  | .pair a b, x => by simp [flat, Sh.n, flat_length a x.1, flat_length b x.2]
theorem flatMap_length (e : Sh) (xs : List e.T) : (xs.flatMap (flat e)).length = xs.length * e.n := by
  induction xs with
  | nil => simp
  | cons x t ih => simp [flat_length, ih, Nat.add_mul, Nat.add_comm]
theorem flatMap_split (e : Sh) (xs : List e.T) (i : Nat) (h : i < xs.length) :
    xs.flatMap (flat e) = (xs.take i).flatMap (flat e) ++ (flat e xs[i] ++ (xs.drop (i + 1)).flatMap (flat e)) := by
  have h1 : xs.flatMap (flat e) = (xs.take i ++ (xs[i] :: xs.drop (i + 1))).flatMap (flat e) := by
    congr 1
    simp
  rw [h1, List.flatMap_append, List.flatMap_cons]
theorem flatMap_at (e : Sh) (xs : List e.T) (i : Nat) (h : i < xs.length) (j : Nat) (hj : j < e.n) :
    (xs.flatMap (flat e))[i * e.n + j]? = (flat e xs[i])[j]? := by
  rw [flatMap_split e xs i h]
  have hl : ((xs.take i).flatMap (flat e)).length = i * e.n := by rw [flatMap_length, List.length_take, Nat.min_eq_left (by omega)]
  rw [List.getElem?_append_right (by omega), hl]
  simp only [Nat.add_sub_cancel_left]
  rw [List.getElem?_append_left (by rw [flat_length]; exact hj)]
abbrev cellAt (w : World) (b o : Nat) : Option Value := w.cell? ⟨b, o, none⟩
theorem add_none (g o j : Nat) : (⟨g, o, none⟩ : Addr).add j = ⟨g, o + j, none⟩ := by
  unfold Addr.add
  split <;> simp_all
def ObjKept (c : Nat -> Prop) (o o' : Option Obj) : Prop :=
  o' = o \/ ∃ cs cs' et fr, o = some (.cells cs et fr) /\ o' = some (.cells cs' et fr) /\ cs'.size = cs.size /\ ∀ j, ¬ c j -> cs'[j]? = cs[j]?
theorem ObjKept.refl (c : Nat -> Prop) (o : Option Obj) : ObjKept c o o := .inl rfl
theorem ObjKept.trans {c : Nat -> Prop} {o o1 o2 : Option Obj} (h : ObjKept c o o1) (k : ObjKept c o1 o2) : ObjKept c o o2 := by
  rcases h with rfl | ⟨cs, cs', et, fr, h1, h2, h3, h4⟩
  · exact k
  · rcases k with rfl | ⟨ds, ds', et', fr', k1, k2, k3, k4⟩
    · exact .inr ⟨cs, cs', et, fr, h1, h2, h3, h4⟩
    · rw [h2] at k1
      simp only [Option.some.injEq, Obj.cells.injEq] at k1
      obtain ⟨rfl, rfl, rfl⟩ := k1
      exact .inr ⟨cs, ds', et, fr, h1, k2, by omega, fun j hj => (k4 j hj).trans (h4 j hj)⟩
theorem ObjKept.mono {c d : Nat -> Prop} {o o' : Option Obj} (h : ObjKept c o o') (hcd : ∀ j, c j -> d j) : ObjKept d o o' := by
  rcases h with rfl | ⟨cs, cs', et, fr, h1, h2, h3, h4⟩
  · exact .inl rfl
  · exact .inr ⟨cs, cs', et, fr, h1, h2, h3, fun j hj => h4 j (fun h => hj (hcd j h))⟩
theorem ObjKept.eq_of {c : Nat -> Prop} {o o' : Option Obj} (h : ObjKept c o o') (hc : ∀ j, ¬ c j) : o' = o := by
  rcases h with rfl | ⟨cs, cs', et, fr, rfl, rfl, h3, h4⟩
  · rfl
  · have : cs' = cs := Array.ext_getElem? fun j => h4 j (hc j)
    rw [this]
structure KeptW (F : Nat -> Prop) (C : Nat -> Nat -> Prop) (w w' : World) : Prop where
  os : w'.os = w.os
  tape : w'.tape = w.tape
  output : w'.output = w.output
  size : w.heap.size <= w'.heap.size
  block : ∀ b, b < w.heap.size -> ¬ F b -> ObjKept (C b) w.heap[b]? w'.heap[b]?
theorem KeptW.refl (F : Nat -> Prop) (C : Nat -> Nat -> Prop) (w : World) : KeptW F C w w := ⟨rfl, rfl, rfl, Nat.le_refl _, fun _ _ _ => .refl _ _⟩
theorem KeptW.trans {F : Nat -> Prop} {C : Nat -> Nat -> Prop} {w w1 w2 : World} (h : KeptW F C w w1) (k : KeptW F C w1 w2) : KeptW F C w w2 :=
  ⟨k.os.trans h.os, k.tape.trans h.tape, k.output.trans h.output, Nat.le_trans h.size k.size,
   fun b hb hF => (h.block b hb hF).trans (k.block b (Nat.lt_of_lt_of_le hb h.size) hF)⟩
theorem KeptW.then {F : Nat -> Prop} {C : Nat -> Nat -> Prop} {w w1 w2 : World} {F' : Nat -> Prop} {C' : Nat -> Nat -> Prop} (h : KeptW F C w w1) (k : KeptW F' C' w1 w2)
    (hF : ∀ b, b < w.heap.size -> F' b -> F b) (hC : ∀ b o, b < w.heap.size -> C' b o -> F b \/ C b o) : KeptW F C w w2 :=
  ⟨k.os.trans h.os, k.tape.trans h.tape, k.output.trans h.output, Nat.le_trans h.size k.size,
   fun b hb hn => (h.block b hb hn).trans ((k.block b (Nat.lt_of_lt_of_le hb h.size) (fun h' => hn (hF b hb h'))).mono fun j hj => (hC b j hb hj).resolve_left hn)⟩
theorem ObjKept.cell {c : Nat -> Prop} {w w' : World} {b o : Nat} (h : ObjKept c w.heap[b]? w'.heap[b]?) (hc : ¬ c o) : cellAt w' b o = cellAt w b o := by
  unfold cellAt World.cell?
  rcases h with h | ⟨cs, cs', et, fr, h1, h2, h3, h4⟩
  · rw [h]
  · simp [h1, h2, h4 o hc]
theorem KeptW.cell {F : Nat -> Prop} {C : Nat -> Nat -> Prop} {w w' : World} (h : KeptW F C w w') {b o : Nat} (hb : b < w.heap.size) (hF : ¬ F b) (hC : ¬ C b o) : cellAt w' b o = cellAt w b o :=
  (h.block b hb hF).cell hC
theorem KeptW.same {F : Nat -> Prop} {C : Nat -> Nat -> Prop} {w w' : World} (h : KeptW F C w w') {b : Nat} (hb : b < w.heap.size) (hF : ¬ F b) (hC : ∀ o, ¬ C b o) : w'.heap[b]? = w.heap[b]? :=
  (h.block b hb hF).eq_of hC
theorem KeptW.alloc (F : Nat -> Prop) (C : Nat -> Nat -> Prop) (w : World) (o : Obj) : KeptW F C w (w.alloc o) :=
  ⟨rfl, rfl, rfl, by simp, fun b hb _ => .inl (RowKit.Below.heap_alloc w o b hb)⟩
theorem KeptW.drew (F : Nat -> Prop) (C : Nat -> Nat -> Prop) (w : World) : KeptW F C w w.drew := ⟨rfl, rfl, rfl, Nat.le_refl _, fun _ _ _ => .inl rfl⟩
theorem cellAt_lt {w : World} {b o : Nat} {v : Value} (h : cellAt w b o = some v) : b < w.heap.size := by
  unfold cellAt World.cell? at h
  by_cases hb : b < w.heap.size
  · exact hb
  · simp [Array.getElem?_eq_none (Nat.le_of_not_lt hb)] at h
theorem cellAt_of {w : World} {g j : Nat} {cur : Array Value} {et : TypeId} {fr : Nat × Nat} (h : w.heap[g]? = some (.cells cur et fr)) : cellAt w g j = cur[j]? := by
  simp [cellAt, World.cell?, h]
inductive RdL (w : World) (Ok : Nat -> Nat -> Prop) : List Lf -> List Value -> Prop
  | nil : RdL w Ok [] []
  | int {k x ls vs} : RdL w Ok ls vs -> RdL w Ok (.int k x :: ls) (.int k x :: vs)
  | bool {b ls vs} : RdL w Ok ls vs -> RdL w Ok (.bool b :: ls) (.bool b :: vs)
  | str {s ls vs} : RdL w Ok ls vs -> RdL w Ok (.str s :: ls) (.string s :: vs)
  | sl0 {e A cap ls vs} : RdL w Ok ls vs -> RdL w Ok (.ext e [] :: ls) (.slice A 0 cap :: vs)
  | sl {e xs b o n cap inner ls vs} : (xs.length = n /\ n <= cap) -> inner.length = n * e.n -> (∀ j v, inner[j]? = some v -> cellAt w b (o + j) = some v /\ Ok b (o + j)) ->
      RdL w Ok (xs.flatMap (flat e)) inner -> RdL w Ok ls vs -> RdL w Ok (.ext e xs :: ls) (.slice (some ⟨b, o, none⟩) n cap :: vs)
theorem RdL.length {w Ok ls vs} (h : RdL w Ok ls vs) : vs.length = ls.length := by
  induction h <;> simp_all
theorem RdL.mono {w w' : World} {Ok Ok' : Nat -> Nat -> Prop} {ls vs} (h : RdL w Ok ls vs) (hk : ∀ b o, Ok b o -> cellAt w' b o = cellAt w b o /\ Ok' b o) : RdL w' Ok' ls vs := by
  induction h with
  | nil => exact .nil
  | int _ ih => exact .int ih
  | bool _ ih => exact .bool ih
  | str _ ih => exact .str ih
  | sl0 _ ih => exact .sl0 ih
  | sl h1 h2 h3 _ _ ih1 ih2 =>
    exact .sl h1 h2 (fun j v hv => by
      obtain ⟨p, q⟩ := h3 j v hv
      obtain ⟨p', q'⟩ := hk _ _ q
      exact ⟨p'.trans p, q'⟩) ih1 ih2
theorem RdL.append {w Ok} {l1 v1 l2 v2} (h : RdL w Ok l1 v1) (k : RdL w Ok l2 v2) : RdL w Ok (l1 ++ l2) (v1 ++ v2) := by
  induction h with
  | nil => exact k
  | int _ ih => exact .int ih
  | bool _ ih => exact .bool ih
  | str _ ih => exact .str ih
  | sl0 _ ih => exact .sl0 ih
  | sl h1 h2 h3 h4 _ _ ih2 => exact .sl h1 h2 h3 h4 ih2
theorem RdL.split {w Ok} : ∀ {l1 l2 vs}, RdL w Ok (l1 ++ l2) vs -> ∃ v1 v2, vs = v1 ++ v2 /\ RdL w Ok l1 v1 /\ RdL w Ok l2 v2
  | [], l2, vs, h => ⟨[], vs, rfl, .nil, h⟩
  | l :: t, l2, vs, h => by
    cases h with
    | int h => obtain ⟨v1, v2, rfl, h1, h2⟩ := RdL.split (l1 := t) h; exact ⟨_ :: v1, v2, rfl, .int h1, h2⟩
    | bool h => obtain ⟨v1, v2, rfl, h1, h2⟩ := RdL.split (l1 := t) h; exact ⟨_ :: v1, v2, rfl, .bool h1, h2⟩
    | str h => obtain ⟨v1, v2, rfl, h1, h2⟩ := RdL.split (l1 := t) h; exact ⟨_ :: v1, v2, rfl, .str h1, h2⟩
    | sl0 h => obtain ⟨v1, v2, rfl, h1, h2⟩ := RdL.split (l1 := t) h; exact ⟨_ :: v1, v2, rfl, .sl0 h1, h2⟩
    | sl a b c d h => obtain ⟨v1, v2, rfl, h1, h2⟩ := RdL.split (l1 := t) h; exact ⟨_ :: v1, v2, rfl, .sl a b c d h1, h2⟩
theorem RdL.head {w Ok l ls v vs} (h : RdL w Ok (l :: ls) (v :: vs)) : RdL w Ok [l] [v] := by
  cases h with
  | int h => exact .int .nil
  | bool h => exact .bool .nil
  | str h => exact .str .nil
  | sl0 h => exact .sl0 .nil
  | sl a b c d h => exact .sl a b c d .nil
theorem RdL.tail {w Ok l ls v vs} (h : RdL w Ok (l :: ls) (v :: vs)) : RdL w Ok ls vs := by
  cases h with
  | int h => exact h
  | bool h => exact h
  | str h => exact h
  | sl0 h => exact h
  | sl a b c d h => exact h
theorem RdL.cons {w Ok l ls v vs} (h : RdL w Ok [l] [v]) (k : RdL w Ok ls vs) : RdL w Ok (l :: ls) (v :: vs) := by
  have := h.append k
  simpa using this
theorem RdL.drop {w Ok ls vs} (h : RdL w Ok ls vs) (n : Nat) : RdL w Ok (ls.drop n) (vs.drop n) := by
  by_cases hn : n <= ls.length
  · have hl := h.length
    rw [<- List.take_append_drop n ls] at h
    obtain ⟨v1, v2, rfl, h1, h2⟩ := h.split
    have : v1.length = n := by rw [h1.length]; simp; omega
    rw [List.drop_left' this]
    exact h2
  · rw [List.drop_eq_nil_of_le (by omega), List.drop_eq_nil_of_le (by have := h.length; omega)]
    exact .nil
theorem RdL.take {w Ok ls vs} (h : RdL w Ok ls vs) (n : Nat) : RdL w Ok (ls.take n) (vs.take n) := by
  by_cases hn : n <= ls.length
  · have hl := h.length
    rw [<- List.take_append_drop n ls] at h
    obtain ⟨v1, v2, rfl, h1, h2⟩ := h.split
    have : v1.length = n := by rw [h1.length]; simp; omega
    rw [List.take_left' this]
    exact h1
  · rw [List.take_of_length_le (by omega), List.take_of_length_le (by have := h.length; omega)]
    exact h
theorem RdL.elem {w Ok e xs b o n cap} (h : RdL w Ok [.ext e xs] [.slice (some ⟨b, o, none⟩) n cap]) (i : Nat) (hi : i < xs.length) :
    ∃ inner : List Value, inner.length = e.n /\ (∀ j v, inner[j]? = some v -> cellAt w b (o + i * e.n + j) = some v /\ Ok b (o + i * e.n + j)) /\ RdL w Ok (flat e xs[i]) inner := by
  cases h with
  | sl0 h => simp at hi
  | sl h1 h2 h3 h4 h5 =>
    rename_i inner
    rw [flatMap_split e xs i hi] at h4
    obtain ⟨v1, v2, rfl, k1, k2⟩ := h4.split
    obtain ⟨v3, v4, rfl, k3, k4⟩ := k2.split
    have l1 : v1.length = i * e.n := by rw [k1.length, flatMap_length, List.length_take, Nat.min_eq_left (by omega)]
    have l3 : v3.length = e.n := by rw [k3.length, flat_length]
    refine ⟨v3, l3, fun j v hv => ?_, k3⟩
    have hj : j < v3.length := by
      rcases Nat.lt_or_ge j v3.length with h | h
      · exact h
      · simp [List.getElem?_eq_none h] at hv
    have := h3 (i * e.n + j) v (by
      rw [List.getElem?_append_right (by omega), l1, Nat.add_sub_cancel_left, List.getElem?_append_left hj]
      exact hv)
    rw [<- Nat.add_assoc] at this
    exact this
def Dj (F G : Nat -> Prop) : Prop := ∀ b, F b -> G b -> False
inductive OwnL (w : World) : List Lf -> List Value -> (Nat -> Prop) -> Prop
  | nil : OwnL w [] [] (fun _ => False)
  | int {k x ls vs F} : OwnL w ls vs F -> OwnL w (.int k x :: ls) (.int k x :: vs) F
  | bool {b ls vs F} : OwnL w ls vs F -> OwnL w (.bool b :: ls) (.bool b :: vs) F
  | str {s ls vs F} : OwnL w ls vs F -> OwnL w (.str s :: ls) (.string s :: vs) F
  | nl {e ls vs F} : OwnL w ls vs F -> OwnL w (.ext e [] :: ls) (.slice none 0 0 :: vs) F
  | sl {e xs g o n cap cur et fr F1 F2 ls vs} : xs.length = n -> n <= cap -> cap <= maxLen -> o + cap * e.n <= cur.size -> w.heap[g]? = some (.cells cur et fr) ->
      (∀ j, j < cur.size -> ¬ (fr.1 <= j /\ j < fr.2)) -> OwnL w (xs.flatMap (flat e)) ((cur.toList.drop o).take (n * e.n)) F1 -> ¬ F1 g ->
      OwnL w ls vs F2 -> ¬ F2 g -> Dj F1 F2 -> OwnL w (.ext e xs :: ls) (.slice (some ⟨g, o, none⟩) n cap :: vs) (fun b => b = g \/ F1 b \/ F2 b)
theorem OwnL.eqv {w ls vs F F'} (h : OwnL w ls vs F) (e : ∀ b, F b ↔ F' b) : OwnL w ls vs F' := by
  have : F = F' := funext fun b => propext (e b)
  exact this ▸ h
theorem OwnL.length {w ls vs F} (h : OwnL w ls vs F) : vs.length = ls.length := by
  induction h <;> simp_all
theorem OwnL.lt {w ls vs F} (h : OwnL w ls vs F) : ∀ b, F b -> b < w.heap.size := by
  induction h with
  | nil => exact fun _ h => h.elim
  | int _ ih => exact ih
  | bool _ ih => exact ih
  | str _ ih => exact ih
  | nl _ ih => exact ih
  | sl h1 h2 h3 h4 h5 h6 _ _ _ _ _ ih1 ih2 =>
    rintro b (rfl | hb | hb)
    · exact (Array.getElem?_eq_some_iff.1 h5).1
    · exact ih1 b hb
    · exact ih2 b hb
theorem OwnL.frame {w w' ls vs F} (h : OwnL w ls vs F) (hk : ∀ b, F b -> w'.heap[b]? = w.heap[b]?) : OwnL w' ls vs F := by
  induction h with
  | nil => exact .nil
  | int _ ih => exact .int (ih hk)
  | bool _ ih => exact .bool (ih hk)
  | str _ ih => exact .str (ih hk)
  | nl _ ih => exact .nl (ih hk)
  | sl h1 h2 h3 h4 h5 h6 _ h8 _ h10 h11 ih1 ih2 =>
    exact .sl h1 h2 h3 h4 ((hk _ (.inl rfl)).trans h5) h6 (ih1 fun b hb => hk b (.inr (.inl hb))) h8 (ih2 fun b hb => hk b (.inr (.inr hb))) h10 h11
theorem OwnL.append {w l1 v1 F1 l2 v2 F2} (h : OwnL w l1 v1 F1) (k : OwnL w l2 v2 F2) (hd : Dj F1 F2) : OwnL w (l1 ++ l2) (v1 ++ v2) (fun b => F1 b \/ F2 b) := by
  induction h with
  | nil => exact k.eqv fun b => by simp
  | int _ ih => exact .int (ih hd)
  | bool _ ih => exact .bool (ih hd)
  | str _ ih => exact .str (ih hd)
  | nl _ ih => exact .nl (ih hd)
  | sl h1 h2 h3 h4 h5 h6 h7 h8 h9 h10 h11 ih1 ih2 =>
    have := OwnL.sl h1 h2 h3 h4 h5 h6 h7 h8 (ih2 fun b hb => hd b (.inr (.inr hb))) (fun h => h.elim h10 (fun h => hd _ (.inl rfl) h)) (fun b hb h => h.elim (h11 b hb) (fun h => hd b (.inr (.inl hb)) h))
    exact this.eqv fun b => by simp only [or_assoc]
theorem OwnL.split {w} : ∀ {l1 l2 vs F}, OwnL w (l1 ++ l2) vs F ->
    ∃ v1 v2 F1 F2, vs = v1 ++ v2 /\ OwnL w l1 v1 F1 /\ OwnL w l2 v2 F2 /\ Dj F1 F2 /\ ∀ b, F b ↔ F1 b \/ F2 b
  | [], l2, vs, F, h => ⟨[], vs, fun _ => False, F, rfl, .nil, h, fun _ h => h.elim, fun b => by simp⟩
  | l :: t, l2, vs, F, h => by
    cases h with
    | int h => obtain ⟨v1, v2, F1, F2, rfl, h1, h2, h3, h4⟩ := OwnL.split (l1 := t) h; exact ⟨_ :: v1, v2, F1, F2, rfl, .int h1, h2, h3, h4⟩
    | bool h => obtain ⟨v1, v2, F1, F2, rfl, h1, h2, h3, h4⟩ := OwnL.split (l1 := t) h; exact ⟨_ :: v1, v2, F1, F2, rfl, .bool h1, h2, h3, h4⟩
    | str h => obtain ⟨v1, v2, F1, F2, rfl, h1, h2, h3, h4⟩ := OwnL.split (l1 := t) h; exact ⟨_ :: v1, v2, F1, F2, rfl, .str h1, h2, h3, h4⟩
    | nl h => obtain ⟨v1, v2, F1, F2, rfl, h1, h2, h3, h4⟩ := OwnL.split (l1 := t) h; exact ⟨_ :: v1, v2, F1, F2, rfl, .nl h1, h2, h3, h4⟩
    | sl a1 a2 a3 a4 a5 a6 a7 a8 h a10 a11 =>
      rename_i g _ _ _ _ _ Fa Fb _
      obtain ⟨v1, v2, F1, F2, rfl, h1, h2, h3, h4⟩ := OwnL.split (l1 := t) h
      refine ⟨_ :: v1, v2, _, F2, rfl, .sl a1 a2 a3 a4 a5 a6 a7 a8 h1 (fun h => a10 ((h4 _).2 (.inl h))) (fun b hb h => a11 b hb ((h4 _).2 (.inl h))), h2, ?_, fun b => ?_⟩
      · rintro b (rfl | hb | hb) h
        · exact a10 ((h4 _).2 (.inr h))
        · exact a11 b hb ((h4 _).2 (.inr h))
        · exact h3 b hb h
      · simp only [h4, or_assoc]
theorem OwnL.rd {w ls vs F} {Ok : Nat -> Nat -> Prop} (h : OwnL w ls vs F) (hk : ∀ b o, F b -> Ok b o) : RdL w Ok ls vs := by
  induction h with
  | nil => exact .nil
  | int _ ih => exact .int (ih hk)
  | bool _ ih => exact .bool (ih hk)
  | str _ ih => exact .str (ih hk)
  | nl _ ih => exact .sl0 (ih hk)
  | sl h1 h2 h3 h4 h5 h6 h7 h8 h9 h10 h11 ih1 ih2 =>
    rename_i e xs g o n cap cur et fr Fa Fb ls vs
    have hn : n * e.n <= cap * e.n := Nat.mul_le_mul_right _ h2
    refine .sl ⟨h1, h2⟩ (by simp; omega) (fun j v hv => ?_) (ih1 fun b o hb => hk b o (.inr (.inl hb))) (ih2 fun b o hb => hk b o (.inr (.inr hb)))
    rw [List.getElem?_take] at hv
    split at hv
    · rw [List.getElem?_drop] at hv
      exact ⟨by rw [cellAt_of h5]; simpa using hv, hk _ _ (.inl rfl)⟩
    · cases hv
theorem OwnL.focus {w ls vs F} (h : OwnL w ls vs F) (j : Nat) (l : Lf) (hj : ls[j]? = some l) :
    ∃ v Fl Fr, vs[j]? = some v /\ OwnL w [l] [v] Fl /\ Dj Fl Fr /\ (∀ b, F b ↔ Fl b \/ Fr b) /\
      ∀ w' l' v' Fl', (∀ b, Fr b -> w'.heap[b]? = w.heap[b]?) -> OwnL w' [l'] [v'] Fl' -> Dj Fl' Fr -> OwnL w' (ls.set j l') (vs.set j v') (fun b => Fl' b \/ Fr b) := by
  have hlt : j < ls.length := by
    rcases Nat.lt_or_ge j ls.length with h | h
    · exact h
    · simp [List.getElem?_eq_none h] at hj
  have e : ls = ls.take j ++ ([l] ++ ls.drop (j + 1)) := by
    have : ls[j] = l := by simpa [List.getElem?_eq_getElem hlt] using hj
    rw [<- this]
    simp
  rw [e] at h
  obtain ⟨v1, v2, F1, F2, rfl, h1, h2, h3, h4⟩ := h.split
  obtain ⟨v3, v4, F3, F4, rfl, k1, k2, k3, k4⟩ := h2.split
  have l1 : v1.length = j := by rw [h1.length]; simp; omega
  obtain ⟨v, rfl⟩ : ∃ v, v3 = [v] := by
    have := k1.length
    match v3, this with
    | [v], _ => exact ⟨v, rfl⟩
  refine ⟨v, F3, fun b => F1 b \/ F4 b, ?_, k1, ?_, fun b => ?_, ?_⟩
  · rw [List.getElem?_append_right (by omega), l1]; simp
  · rintro b hb (h | h)
    · exact h3 b h ((k4 b).2 (.inl hb))
    · exact k3 b hb h
  · rw [h4, k4]
    constructor
    · rintro (h | h | h)
      · exact .inr (.inl h)
      · exact .inl h
      · exact .inr (.inr h)
    · rintro (h | h | h)
      · exact .inr (.inl h)
      · exact .inl h
      · exact .inr (.inr h)
  · intro w' l' v' Fl' hf hw hd
    have e2 : (ls.set j l') = ls.take j ++ ([l'] ++ ls.drop (j + 1)) := by
      rw [List.set_eq_take_append_cons_drop, if_pos hlt]
      rfl
    have e3 : ((v1 ++ ([v] ++ v4)).set j v') = v1 ++ ([v'] ++ v4) := by
      rw [List.set_append_right _ _ (by omega), l1]
      simp
    rw [e2, e3]
    have a := (hw.append (k2.frame fun b hb => hf b (.inr hb)) (fun b hb h => hd b hb (.inr h)))
    have b := (h1.frame fun b hb => hf b (.inl hb)).append a (by
      rintro b hb (h | h)
      · exact hd b h (.inl hb)
      · exact h3 b hb ((k4 b).2 (.inr h)))
    exact b.eqv fun b => by
      constructor
      · rintro (h | h | h)
        · exact .inr (.inl h)
        · exact .inl h
        · exact .inr (.inr h)
      · rintro (h | h | h)
        · exact .inr (.inl h)
        · exact .inl h
        · exact .inr (.inr h)
theorem OwnL.open_sl {w e xs v F} (h : OwnL w [.ext e xs] [v] F) (hx : 0 < xs.length) :
    ∃ g o cap cur et fr F1, v = .slice (some ⟨g, o, none⟩) xs.length cap /\ xs.length <= cap /\ cap <= maxLen /\ o + cap * e.n <= cur.size /\ w.heap[g]? = some (.cells cur et fr) /\
      (∀ j, j < cur.size -> ¬ (fr.1 <= j /\ j < fr.2)) /\ OwnL w (xs.flatMap (flat e)) ((cur.toList.drop o).take (xs.length * e.n)) F1 /\ ¬ F1 g /\ (∀ b, F b ↔ b = g \/ F1 b) := by
  cases h with
  | nl h => simp at hx
  | sl h1 h2 h3 h4 h5 h6 h7 h8 h9 h10 h11 =>
    subst h1
    cases h9
    exact ⟨_, _, _, _, _, _, _, rfl, h2, h3, h4, h5, h6, h7, h8, fun b => by simp⟩
theorem OwnL.slice_form {w e xs v F} (h : OwnL w [.ext e xs] [v] F) : ∃ A cap, v = .slice A xs.length cap := by
  cases h with
  | nl h => exact ⟨_, _, rfl⟩
  | sl h1 => subst h1; exact ⟨_, _, rfl⟩
end Go.Proofs.YtaflceohlijekaaGreat.Ev
namespace Go.Proofs.YtaflceohlijekaaGreat.Ev
theorem leafAt_lt : ∀ (s : Sh) (x : s.T) (o : Nat) (r), leafAt s x o = some r -> o < s.n
  | .sl e, xs, o, r, h => by
    unfold leafAt at h
    cases hb : Nat.beq o 0 with
    | true => have := Nat.eq_of_beq_eq_true hb; subst this; simp [Sh.n]
    | false => rw [hb] at h; cases h
  | .pair a b, x, o, r, h => by
    unfold leafAt at h
    cases hb : Nat.blt o a.n with
    | true =>
      rw [hb] at h
      have := leafAt_lt a x.1 o r h
      simp only [Sh.n]; omega
    | false =>
      rw [hb] at h
      have := leafAt_lt b x.2 (o - a.n) r h
      have hge : ¬ o < a.n := by
        intro hlt
        have : Nat.blt o a.n = true := by simpa [Nat.blt_eq] using hlt
        rw [hb] at this
        cases this
      simp only [Sh.n]; omega
  | .int _, _, _, _, h => by cases h
  | .bool, _, _, _, h => by cases h
  | .str, _, _, _, h => by cases h
  | .unit, _, _, _, h => by cases h
theorem blt_false {a b : Nat} (h : Nat.blt a b = false) : b <= a := by
  rcases Nat.lt_or_ge a b with hlt | hge
  · have : Nat.blt a b = true := by simpa [Nat.blt_eq] using hlt
    rw [h] at this
    cases this
  · exact hge
theorem blt_true {a b : Nat} (h : Nat.blt a b = true) : a < b := by simpa [Nat.blt_eq] using h
theorem flat_leafAt : ∀ (s : Sh) (x : s.T) (o : Nat) (e : Sh) (ys : List e.T), leafAt s x o = some ⟨e, ys⟩ -> (flat s x)[o]? = some (.ext e ys)
  | .sl e, xs, o, e', ys, h => by
    unfold leafAt at h
    cases hb : Nat.beq o 0 with
    | true =>
      have := Nat.eq_of_beq_eq_true hb
      subst this
      rw [hb] at h
      simp only [cond_true, Option.some.injEq] at h
      cases h
      rfl
    | false => rw [hb] at h; cases h
  | .pair a b, x, o, e, ys, h => by
    unfold leafAt at h
    cases hb : Nat.blt o a.n with
    | true =>
      rw [hb] at h
      have := flat_leafAt a x.1 o e ys h
      simp only [flat]
      rw [List.getElem?_append_left (by rw [flat_length]; exact blt_true hb)]
      exact this
    | false =>
      rw [hb] at h
      have := flat_leafAt b x.2 (o - a.n) e ys h
      simp only [flat]
      rw [List.getElem?_append_right (by rw [flat_length]; exact blt_false hb), flat_length]
      exact this
  | .int _, _, _, _, _, h => by cases h
  | .bool, _, _, _, _, h => by cases h
  | .str, _, _, _, _, h => by cases h
  | .unit, _, _, _, _, h => by cases h
theorem setLeaf_of : ∀ (s : Sh) (x : s.T) (o : Nat) (e : Sh) (ys zs : List e.T), leafAt s x o = some ⟨e, ys⟩ ->
    ∃ x', setLeaf s x o e zs = some x' /\ flat s x' = (flat s x).set o (.ext e zs) /\ leafAt s x' o = some ⟨e, zs⟩
  | .sl e, xs, o, e', ys, zs, h => by
    unfold leafAt at h
    cases hb : Nat.beq o 0 with
    | true =>
      have := Nat.eq_of_beq_eq_true hb
      subst this
      rw [hb] at h
      simp only [cond_true, Option.some.injEq] at h
      cases h
      exact ⟨zs, by simp [setLeaf], rfl, by simp [leafAt]⟩
    | false => rw [hb] at h; cases h
  | .pair a b, x, o, e, ys, zs, h => by
    unfold leafAt at h
    cases hb : Nat.blt o a.n with
    | true =>
      rw [hb] at h
      obtain ⟨x', h1, h2, h3⟩ := setLeaf_of a x.1 o e ys zs h
      refine ⟨(x', x.2), by simp [setLeaf, hb, h1], ?_, by simp [leafAt, hb, h3]⟩
      simp only [flat, h2]
      rw [List.set_append_left _ _ (by rw [flat_length]; exact blt_true hb)]
    | false =>
      rw [hb] at h
      obtain ⟨x', h1, h2, h3⟩ := setLeaf_of b x.2 (o - a.n) e ys zs h
      refine ⟨(x.1, x'), by simp [setLeaf, hb, h1], ?_, by simp [leafAt, hb, h3]⟩
      simp only [flat, h2]
      rw [List.set_append_right _ _ (by rw [flat_length]; exact blt_false hb), flat_length]
  | .int _, _, _, _, _, _, h => by cases h
  | .bool, _, _, _, _, _, h => by cases h
  | .str, _, _, _, _, _, h => by cases h
  | .unit, _, _, _, _, _, h => by cases h
theorem getD_at {α : Type} (xs : List α) (i : Nat) (d : α) (h : i < xs.length) : xs.getD i d = xs[i] := by
  simp [List.getD_eq_getElem?_getD, h]
theorem flatMap_set (e : Sh) (xs : List e.T) (i : Nat) (h : i < xs.length) (x' : e.T) :
    (xs.set i x').flatMap (flat e) = (xs.take i).flatMap (flat e) ++ (flat e x' ++ (xs.drop (i + 1)).flatMap (flat e)) := by
  rw [List.set_eq_take_append_cons_drop, if_pos h, List.flatMap_append, List.flatMap_cons]
theorem flatMap_setLeaf (e : Sh) (xs : List e.T) (i : Nat) (h : i < xs.length) (x' : e.T) (o : Nat) (l : Lf) (ho : o < e.n) (hx : flat e x' = (flat e xs[i]).set o l) :
    (xs.set i x').flatMap (flat e) = (xs.flatMap (flat e)).set (i * e.n + o) l := by
  have hl : ((xs.take i).flatMap (flat e)).length = i * e.n := by rw [flatMap_length, List.length_take, Nat.min_eq_left (by omega)]
  rw [flatMap_set e xs i h, flatMap_split e xs i h, List.set_append_right _ _ (by omega), hl, Nat.add_sub_cancel_left, List.set_append_left _ _ (by rw [flat_length]; exact ho), hx]
theorem set_same {α : Type} {l : List α} {i : Nat} {v : α} (h : l[i]? = some v) : l.set i v = l := by
  apply List.ext_getElem?
  intro j
  rw [List.getElem?_set]
  split
  · rename_i e
    subst e
    split
    · exact h.symm
    · rename_i hge
      rw [List.getElem?_eq_none (by omega)] at h
      cases h
  · rfl
inductive Hd (w : World) : (e : Sh) -> List e.T -> Value -> Path -> (e' : Sh) -> List e'.T -> Value -> Prop
  | nil {e xs v} : Hd w e xs v [] e xs v
  | step {e} {xs : List e.T} {g o n cap i off} {e1 : Sh} {ys : List e1.T} {v1 p e' zs v'} (hi : i < xs.length) : leafAt e xs[i] off = some ⟨e1, ys⟩ -> cellAt w g (o + (i * e.n + off)) = some v1 ->
      Hd w e1 ys v1 p e' zs v' -> Hd w e xs (.slice (some ⟨g, o, none⟩) n cap) ((i, off) :: p) e' zs v'
theorem Hd.descend {w e xs v p e' ys v'} (h : Hd w e xs v p e' ys v') : Ev.descend p e xs e' = some ys := by
  induction h with
  | nil => simp [Ev.descend, castL]
  | step hi h1 h2 h3 ih => simp only [Ev.descend]; rw [getD_at _ _ _ hi, h1]; exact ih
theorem Hd.own {w} : ∀ {p e xs v e' ys v' F}, Hd w e xs v p e' ys v' -> OwnL w [.ext e xs] [v] F ->
    ∃ Fl Fr, OwnL w [.ext e' ys] [v'] Fl /\ Dj Fl Fr /\ (∀ b, F b ↔ Fl b \/ Fr b) /\
      ∀ w' ys' Fl', (∀ b, Fr b -> w'.heap[b]? = w.heap[b]?) -> OwnL w' [.ext e' ys'] [v'] Fl' -> Dj Fl' Fr ->
        ∃ xs', updAt p e xs e' ys' = some xs' /\ xs'.length = xs.length + (if p = [] then ys'.length - ys.length else 0) - (if p = [] then ys.length - ys'.length else 0) /\ OwnL w' [.ext e xs'] [v] (fun b => Fl' b \/ Fr b) /\ Hd w' e xs' v p e' ys' v'
  | [], e, xs, v, e', ys, v', F, h, ho => by
    cases h
    refine ⟨F, fun _ => False, ho, fun _ _ h => h, fun b => by simp, fun w' ys' Fl' _ h1 _ => ⟨ys', by simp [updAt, castL], by simp; omega, h1.eqv fun b => by simp, .nil⟩⟩
  | (i, off) :: p, e, xs, v, e', ys, v', F, h, ho => by
    cases h with
    | step hi h1 h2 h3 =>
      rename_i g o n cap e1 ys1 v1
      have hx : 0 < xs.length := by omega
      obtain ⟨g', o', cap', cur, et, fr, F1, hv, a1, a2, a3, a4, a5, a6, a7, a8⟩ := ho.open_sl hx
      simp only [Value.slice.injEq, Option.some.injEq, Addr.mk.injEq] at hv
      obtain ⟨⟨rfl, rfl, _⟩, rfl, rfl⟩ := hv
      have hoff := leafAt_lt _ _ _ _ h1
      have hbound : i * e.n + off < xs.length * e.n := by
        have : (i + 1) * e.n <= xs.length * e.n := Nat.mul_le_mul_right _ hi
        rw [Nat.add_mul] at this
        omega
      have hleaf : (xs.flatMap (flat e))[i * e.n + off]? = some (.ext e1 ys1) := by
        rw [flatMap_at e xs i hi off hoff]
        exact flat_leafAt _ _ _ _ _ h1
      obtain ⟨v1', Fl1, Fr1, b1, b2, b3, b4, b5⟩ := a6.focus _ _ hleaf
      have hv1 : v1' = v1 := by
        rw [List.getElem?_take, if_pos hbound, List.getElem?_drop] at b1
        rw [cellAt_of a4] at h2
        simp only [Array.getElem?_toList] at b1
        rw [b1] at h2
        simpa using h2
      subst hv1
      obtain ⟨Fl, Fr, c1, c2, c3, c4⟩ := Hd.own h3 b2
      have hset : ∀ (w' : World), ((cur.toList.drop o).take (xs.length * e.n)).set (i * e.n + off) v1' = (cur.toList.drop o).take (xs.length * e.n) := by
        intro _
        exact set_same b1
      refine ⟨Fl, fun b => b = g \/ Fr b \/ Fr1 b, c1, ?_, fun b => ?_, ?_⟩
      · rintro b hb (rfl | h | h)
        · exact a7 ((b4 _).2 (.inl ((c3 _).2 (.inl hb))))
        · exact c2 b hb h
        · exact b3 b ((c3 b).2 (.inl hb)) h
      · rw [a8, b4, c3]
        constructor
        · rintro (h | (h | h) | h)
          · exact .inr (.inl h)
          · exact .inl h
          · exact .inr (.inr (.inl h))
          · exact .inr (.inr (.inr h))
        · rintro (h | h | h | h)
          · exact .inr (.inl (.inl h))
          · exact .inl h
          · exact .inr (.inl (.inr h))
          · exact .inr (.inr h)
      · intro w' ys' Fl' hf hw hd
        obtain ⟨zs', d1, _, d2, d3⟩ := c4 w' ys' Fl' (fun b hb => hf b (.inr (.inl hb))) hw (fun b hb h => hd b hb (.inr (.inl h)))
        obtain ⟨x', s1, s2, s3⟩ := setLeaf_of e xs[i] off e1 ys1 zs' h1
        have hg : w'.heap[g]? = some (.cells cur et fr) := (hf g (.inl rfl)).trans a4
        have hnew := b5 w' (.ext e1 zs') v1' _ (fun b hb => hf b (.inr (.inr hb))) d2 (by
          rintro b (hb | hb) h
          · exact hd b hb (.inr (.inr h))
          · exact b3 b ((c3 b).2 (.inr hb)) h)
        rw [hset w', <- flatMap_setLeaf e xs i hi x' off _ hoff s2] at hnew
        refine ⟨xs.set i x', ?_, by simp, ?_, ?_⟩
        · simp only [updAt]
          rw [getD_at _ _ _ hi, h1]
          simp only [d1, s1]
        · have := OwnL.sl (w := w') (e := e) (xs := xs.set i x') (g := g) (o := o) (n := xs.length) (cap := cap) (ls := []) (vs := []) (by simp) a1 a2 a3 hg a5 hnew (by
            rintro ((h | h) | h)
            · exact hd g h (.inl rfl)
            · exact a7 ((b4 _).2 (.inl ((c3 _).2 (.inr h))))
            · exact a7 ((b4 _).2 (.inr h))) .nil (fun h => h) (fun _ _ h => h)
          exact this.eqv fun b => by
            constructor
            · rintro (h | ((h | h) | h) | h)
              · exact .inr (.inl h)
              · exact .inl h
              · exact .inr (.inr (.inl h))
              · exact .inr (.inr (.inr h))
              · exact h.elim
            · rintro (h | h | h | h)
              · exact .inr (.inl (.inl (.inl h)))
              · exact .inl h
              · exact .inr (.inl (.inl (.inr h)))
              · exact .inr (.inl (.inr h))
        · refine .step (by simpa using hi) (by simpa using s3) ?_ d3
          rw [cellAt_of hg, <- cellAt_of a4]
          exact h2
theorem OwnL.elem {w e xs v F} (h : OwnL w [.ext e xs] [v] F) (i : Nat) (hi : i < xs.length) :
    ∃ g o cap cur et fr inner Fi Fr, v = .slice (some ⟨g, o, none⟩) xs.length cap /\ w.heap[g]? = some (.cells cur et fr) /\ o + i * e.n + e.n <= cur.size /\
      (∀ j, j < cur.size -> ¬ (fr.1 <= j /\ j < fr.2)) /\ inner.length = e.n /\ (∀ j, j < e.n -> cur[o + i * e.n + j]? = inner[j]?) /\ OwnL w (flat e xs[i]) inner Fi /\ Dj Fi Fr /\ ¬ Fi g /\ ¬ Fr g /\
      (∀ b, F b ↔ b = g \/ Fi b \/ Fr b) /\
      ∀ w' cur' x' inner' Fi', w'.heap[g]? = some (.cells cur' et fr) -> cur'.size = cur.size -> (∀ j, j < o + i * e.n \/ o + i * e.n + e.n <= j -> cur'[j]? = cur[j]?) ->
        inner'.length = e.n -> (∀ j, j < e.n -> cur'[o + i * e.n + j]? = inner'[j]?) -> (∀ b, Fr b -> w'.heap[b]? = w.heap[b]?) -> OwnL w' (flat e x') inner' Fi' -> Dj Fi' Fr -> ¬ Fi' g ->
        OwnL w' [.ext e (xs.set i x')] [v] (fun b => b = g \/ Fi' b \/ Fr b) := by
  obtain ⟨g, o, cap, cur, et, fr, F1, hv, a1, a2, a3, a4, a5, a6, a7, a8⟩ := h.open_sl (by omega)
  have hb : i * e.n + e.n <= xs.length * e.n := by
    have : (i + 1) * e.n <= xs.length * e.n := Nat.mul_le_mul_right _ hi
    rw [Nat.add_mul] at this
    omega
  have hc : xs.length * e.n <= cap * e.n := Nat.mul_le_mul_right _ a1
  rw [flatMap_split e xs i hi] at a6
  obtain ⟨v1, v2, F2, F3, e1, b1, b2, b3, b4⟩ := a6.split
  obtain ⟨v3, v4, F4, F5, rfl, c1, c2, c3, c4⟩ := b2.split
  have l1 : v1.length = i * e.n := by rw [b1.length, flatMap_length, List.length_take, Nat.min_eq_left (by omega)]
  have l3 : v3.length = e.n := by rw [c1.length, flat_length]
  have l4 : v4.length = (xs.length - (i + 1)) * e.n := by rw [c2.length, flatMap_length]; simp
  have hcell : ∀ j, j < xs.length * e.n -> cur[o + j]? = (v1 ++ (v3 ++ v4))[j]? := by
    intro j hj
    rw [<- e1, List.getElem?_take, if_pos hj, List.getElem?_drop]
    simp
  refine ⟨g, o, cap, cur, et, fr, v3, F4, fun b => F2 b \/ F5 b, hv, a4, by omega, a5, l3, fun j hj => ?_, c1, ?_, ?_, ?_, fun b => ?_, ?_⟩
  · have := hcell (i * e.n + j) (by omega)
    rw [List.getElem?_append_right (by omega), l1, Nat.add_sub_cancel_left, List.getElem?_append_left (by omega)] at this
    rw [<- this, Nat.add_assoc]
  · rintro b hb (h | h)
    · exact b3 b h ((c4 b).2 (.inl hb))
    · exact c3 b hb h
  · exact fun h => a7 ((b4 _).2 (.inr ((c4 _).2 (.inl h))))
  · rintro (h | h)
    · exact a7 ((b4 _).2 (.inl h))
    · exact a7 ((b4 _).2 (.inr ((c4 _).2 (.inr h))))
  · rw [a8, b4, c4]
    constructor
    · rintro (h | h | h | h)
      · exact .inl h
      · exact .inr (.inr (.inl h))
      · exact .inr (.inl h)
      · exact .inr (.inr (.inr h))
    · rintro (h | h | h | h)
      · exact .inl h
      · exact .inr (.inr (.inl h))
      · exact .inr (.inl h)
      · exact .inr (.inr (.inr h))
  · intro w' cur' x' inner' Fi' hg hs hout hl hin hf ho hd hn
    have hcells : (cur'.toList.drop o).take (xs.length * e.n) = v1 ++ (inner' ++ v4) := by
      apply List.ext_getElem?
      intro j
      by_cases hj : j < xs.length * e.n
      · rw [List.getElem?_take, if_pos hj, List.getElem?_drop, Array.getElem?_toList]
        by_cases h1 : j < i * e.n
        · rw [hout _ (.inl (by omega)), hcell j hj, List.getElem?_append_left (by omega), List.getElem?_append_left (by omega)]
        · by_cases h2 : j < i * e.n + e.n
          · have := hin (j - i * e.n) (by omega)
            rw [show o + i * e.n + (j - i * e.n) = o + j from by omega] at this
            rw [this, List.getElem?_append_right (by omega), l1, List.getElem?_append_left (by omega)]
          · have p1 : (v1 ++ (v3 ++ v4))[j]? = v4[j - i * e.n - e.n]? := by
              rw [List.getElem?_append_right (by omega), l1, List.getElem?_append_right (by omega), l3]
            have p2 : (v1 ++ (inner' ++ v4))[j]? = v4[j - i * e.n - e.n]? := by
              rw [List.getElem?_append_right (by omega), l1, List.getElem?_append_right (by omega), hl]
            rw [hout _ (.inr (by omega)), hcell j hj, p1, p2]
      · have hsub : (xs.length - (i + 1)) * e.n + (i + 1) * e.n = xs.length * e.n := by rw [<- Nat.add_mul]; congr 1; omega
        have : (i + 1) * e.n = i * e.n + e.n := by rw [Nat.add_mul]; omega
        rw [List.getElem?_eq_none (by simp; omega), List.getElem?_eq_none (by simp; omega)]
    have h2 := (b1.frame (w' := w') fun b hb => hf b (.inl hb)).append (ho.append (c2.frame fun b hb => hf b (.inr hb)) (fun b hb h => hd b hb (.inr h))) (by
      rintro b hb (h | h)
      · exact hd b h (.inl hb)
      · exact b3 b hb ((c4 b).2 (.inr h)))
    rw [<- flatMap_set e xs i hi x', <- hcells] at h2
    subst hv
    have := OwnL.sl (w := w') (e := e) (xs := xs.set i x') (g := g) (o := o) (n := xs.length) (cap := cap) (ls := []) (vs := []) (by simp) a1 a2 (by omega) hg (by rw [hs]; exact a5) h2 (by
      rintro (h | h | h)
      · exact a7 ((b4 _).2 (.inl h))
      · exact hn h
      · exact a7 ((b4 _).2 (.inr ((c4 _).2 (.inr h))))) .nil (fun h => h) (fun _ _ h => h)
    exact this.eqv fun b => by
      constructor
      · rintro (h | (h | h | h) | h)
        · exact .inl h
        · exact .inr (.inr (.inl h))
        · exact .inr (.inl h)
        · exact .inr (.inr (.inr h))
        · exact h.elim
      · rintro (h | h | h | h)
        · exact .inl h
        · exact .inr (.inl (.inr (.inl h)))
        · exact .inr (.inl (.inl h))
        · exact .inr (.inl (.inr (.inr h)))
end Go.Proofs.YtaflceohlijekaaGreat.Ev
namespace Go.Proofs.YtaflceohlijekaaGreat.Ev
structure Cx where
  w0 : World
  F0 : Nat -> Prop
  C0 : Nat -> Nat -> Prop
  pin : Nat -> Option Value
def Cx.ok (c : Cx) (b o : Nat) : Prop := b < c.w0.heap.size /\ ¬ c.F0 b /\ ¬ c.C0 b o
structure Gh where
  uv : Nat -> Value
  uf : Nat -> Nat -> Prop
  va : Nat -> Nat × Nat
def SubH (v0 : Value) (lo len sz : Nat) (v : Value) : Prop :=
  ∃ A n cap A' cap', v0 = .slice A n cap /\ v = .slice A' len cap' /\ lo + len <= n /\ len <= cap' /\ ((len = 0 /\ cap' = 0 /\ (A' = none \/ ∃ g o o', A = some ⟨g, o, none⟩ /\ A' = some ⟨g, o', none⟩ /\ o' <= o + cap * sz)) \/ ∃ g o, A = some ⟨g, o, none⟩ /\ A' = some ⟨g, o + lo * sz, none⟩ /\ cap' + lo = cap)
section
variable (c : Cx) (us : List (Nat × UE)) (vs : List (Nat × List Lf)) (G : Gh) (w : World)
def LfRel : Lf -> Value -> Prop
  | .int k x, v => v = .int k x
  | .bool b, v => v = .bool b
  | .str s, v => v = .string s
  | .ext e xs, v => RdL c.w0 c.ok [.ext e xs] [v]
  | .nl _, v => v = .slice none 0 0
  | .own k ep p e, v => ∃ en, getA us k = some en /\ ∀ ep0 e0 xs0, en = .own ep0 e0 xs0 -> (p ≠ [] -> ep <= ep0) /\ ((p = [] \/ ep = ep0) -> ∃ ys, Hd w e0 xs0 (G.uv k) p e ys v)
  | .sub k ep p e lo len, v => ∃ en, getA us k = some en /\ ∀ ep0 e0 xs0, en = .own ep0 e0 xs0 -> (p ≠ [] -> ep <= ep0) /\ ((p = [] \/ ep = ep0) -> ∃ ys v0, Hd w e0 xs0 (G.uv k) p e ys v0 /\ SubH v0 lo len e.n v)
  | .dead, _ => True
def LsRel : List Lf -> List Value -> Prop
  | [], [] => True
  | l :: ls, v :: vs => (LfRel c us G w l v /\ v.oneCell' = true) /\ LsRel ls vs
  | _, _ => False
def PtrRel : Ptr -> Value -> Prop
  | .var r off, v => ∃ ls, getA vs r = some ls /\ v = .pointer (some ⟨(G.va r).1, (G.va r).2 + off, none⟩)
  | .elem k ep p e i off, v => ∃ en, getA us k = some en /\ ∀ ep0 e0 xs0, en = .own ep0 e0 xs0 -> (p ≠ [] -> ep <= ep0) /\ ((p = [] \/ ep = ep0) ->
      ∃ ys g o n cap, Hd w e0 xs0 (G.uv k) p e ys (.slice (some ⟨g, o, none⟩) n cap) /\ i < n /\ v = .pointer (some ⟨g, o + i * e.n + off, none⟩))
  | .ext e x off, v => ∃ g o inner, v = .pointer (some ⟨g, o + off, none⟩) /\ inner.length = e.n /\ (∀ j u, inner[j]? = some u -> cellAt c.w0 g (o + j) = some u /\ c.ok g (o + j)) /\ RdL c.w0 c.ok (flat e x) inner
  | .cells ls off, v => ∃ g o inner, v = .pointer (some ⟨g, o + off, none⟩) /\ LsRel c us G w ls inner /\ ∀ j u, inner[j]? = some u -> cellAt c.w0 g (o + j) = some u /\ c.ok g (o + j)
def VLs (g : Bool) (ls : List Lf) (v : Value) : Prop := match g with
  | true => ∃ vs : List Value, v = .agg vs.toArray /\ LsRel c us G w ls vs
  | false => LsRel c us G w ls [v]
def TupRel : List (Bool × List Lf) -> List Value -> Prop
  | [], [] => True
  | (g, ls) :: t, v :: vs => VLs c us G w g ls v /\ TupRel t vs
  | _, _ => False
def VRel : AV -> Value -> Prop
  | .v g ls, v => VLs c us G w g ls v
  | .ptr p, v => PtrRel c us vs G w p v
  | .tup l, v => ∃ q : List Value, v = .tuple q.toArray /\ TupRel c us G w l q
  | .u, _ => True
  | .no, v => v = undef
end
structure Rel (c : Cx) (st : St) (G : Gh) (w : World) (tm : Nat -> Value) : Prop where
  kept : KeptW c.F0 c.C0 c.w0 w
  unit : ∀ k ep e xs, getA st.us k = some (.own ep e xs) -> OwnL w [.ext e xs] [G.uv k] (G.uf k)
  fUnit : ∀ k ep e xs, getA st.us k = some (.own ep e xs) -> ∀ b, G.uf k b -> c.F0 b \/ c.w0.heap.size <= b
  var : ∀ r ls, getA st.vs r = some ls -> ∃ vs, LsRel c st.us G w ls vs /\ (∀ j v, vs[j]? = some v -> cellAt w (G.va r).1 ((G.va r).2 + j) = some v) /\ (∀ j, j < ls.length -> w.frozen? ⟨(G.va r).1, (G.va r).2 + j, none⟩ = false)
  vLt : ∀ r ls, getA st.vs r = some ls -> (G.va r).1 < w.heap.size
  fVar : ∀ r ls, getA st.vs r = some ls -> ∀ j, j < ls.length -> c.C0 (G.va r).1 ((G.va r).2 + j) \/ c.w0.heap.size <= (G.va r).1
  dUU : ∀ k1 k2 ep1 e1 xs1 ep2 e2 xs2, getA st.us k1 = some (.own ep1 e1 xs1) -> getA st.us k2 = some (.own ep2 e2 xs2) -> k1 ≠ k2 -> Dj (G.uf k1) (G.uf k2)
  dUV : ∀ k ep e xs r ls, getA st.us k = some (.own ep e xs) -> getA st.vs r = some ls -> ¬ G.uf k (G.va r).1
  dVV : ∀ r1 r2 l1 l2, getA st.vs r1 = some l1 -> getA st.vs r2 = some l2 -> r1 ≠ r2 -> ∀ j1 j2, j1 < l1.length -> j2 < l2.length -> (G.va r1).1 = (G.va r2).1 -> (G.va r1).2 + j1 ≠ (G.va r2).2 + j2
  slot : ∀ t v, getA st.sl t = some v -> VRel c st.us st.vs G w v (tm t)
  pin : ∀ t v, c.pin t = some v -> tm t = v
theorem LsRel.length {c us G w} : ∀ {ls vs}, LsRel c us G w ls vs -> vs.length = ls.length
  | [], [], _ => rfl
  | _ :: _, _ :: _, h => by simp [LsRel.length h.2]
  | [], _ :: _, h => h.elim
  | _ :: _, [], h => h.elim
theorem getA_cons {α : Type} (k : Nat) (v : α) (t : List (Nat × α)) (i : Nat) : getA ((k, v) :: t) i = if k = i then some v else getA t i := by
  simp only [getA]
  by_cases h : k = i
  · subst h; simp [Nat.beq_refl]
  · have : Nat.beq k i = false := by
      cases hb : Nat.beq k i with
      | true => exact absurd (Nat.eq_of_beq_eq_true hb) h
      | false => rfl
    simp [this, h]
theorem getA_nil {α : Type} (i : Nat) : getA ([] : List (Nat × α)) i = none := rfl
theorem getA_append {α : Type} (l t : List (Nat × α)) (i : Nat) : getA (l ++ t) i = match getA l i with | some v => some v | none => getA t i := by
  induction l with
  | nil => rfl
  | cons h r ih =>
    obtain ⟨k, v⟩ := h
    rw [List.cons_append, getA_cons, getA_cons, ih]
    split <;> rfl
def UCompat (us us' : List (Nat × UE)) (G G' : Gh) (w w' : World) : Prop :=
  ∀ k en, getA us k = some en -> ∃ en', getA us' k = some en' /\ ∀ ep' e' xs', en' = .own ep' e' xs' ->
    ∃ ep xs, en = .own ep e' xs /\ G'.uv k = G.uv k /\ ep <= ep' /\ (ep' = ep -> xs = xs' /\ ∀ p e'' ys v', Hd w e' xs (G.uv k) p e'' ys v' -> Hd w' e' xs (G.uv k) p e'' ys v')
def VCompat (vs vs' : List (Nat × List Lf)) (G G' : Gh) : Prop :=
  ∀ r ls, getA vs r = some ls -> ∃ ls', getA vs' r = some ls' /\ G'.va r = G.va r
theorem UCompat.refl (us G w) : UCompat us us G G w w := fun k en h => ⟨en, h, fun ep' e' xs' he => ⟨ep', xs', he, rfl, Nat.le_refl _, fun _ => ⟨rfl, fun _ _ _ _ h => h⟩⟩⟩
theorem VCompat.refl (vs G) : VCompat vs vs G G := fun r ls h => ⟨ls, h, rfl⟩
section
variable {c : Cx} {us us' : List (Nat × UE)} {vs vs' : List (Nat × List Lf)} {G G' : Gh} {w w' : World}
theorem hd_carry (hu : UCompat us us' G G' w w') {k ep : Nat} {p : Path} {e0' : Sh} {ep0' : Nat} {xs0' : List e0'.T} {en en' : UE} (h : getA us k = some en) (h' : getA us' k = some en') (he : en' = .own ep0' e0' xs0')
    {Q : (e0 : Sh) -> List e0.T -> Value -> World -> Prop} (hold : ∀ ep0 e0 xs0, en = .own ep0 e0 xs0 -> (p ≠ [] -> ep <= ep0) /\ ((p = [] \/ ep = ep0) -> Q e0 xs0 (G.uv k) w))
    (hnil : p = [] -> ∀ xs0 u, Q e0' xs0 u w -> Q e0' xs0' u w')
    (hstay : (∀ p e'' ys v', Hd w e0' xs0' (G.uv k) p e'' ys v' -> Hd w' e0' xs0' (G.uv k) p e'' ys v') -> Q e0' xs0' (G.uv k) w -> Q e0' xs0' (G.uv k) w') :
    (p ≠ [] -> ep <= ep0') /\ ((p = [] \/ ep = ep0') -> Q e0' xs0' (G'.uv k) w') := by
  obtain ⟨en2, g2, g3⟩ := hu k en h
  rw [h'] at g2
  cases g2
  obtain ⟨ep0, xs0, e1, e2, hle, e3⟩ := g3 _ _ _ he
  obtain ⟨a, b⟩ := hold _ _ _ e1
  refine ⟨fun hp => Nat.le_trans (a hp) hle, fun hp => ?_⟩
  rw [e2]
  by_cases hnp : p = []
  · exact hnil hnp xs0 _ (b (.inl hnp))
  · have hep : ep = ep0' := hp.resolve_left hnp
    have := a hnp
    have heq : ep0' = ep0 := by omega
    obtain ⟨rfl, x2⟩ := e3 heq
    exact hstay x2 (b (.inr (by omega)))
theorem LfRel.carry (hu : UCompat us us' G G' w w') {l v} (h : LfRel c us G w l v) : LfRel c us' G' w' l v := by
  cases l with
  | int => exact h
  | bool => exact h
  | str => exact h
  | ext => exact h
  | nl => exact h
  | dead => trivial
  | own k ep p e =>
    obtain ⟨en, h1, h2⟩ := h
    obtain ⟨en', g1, _⟩ := hu k en h1
    refine ⟨en', g1, fun ep0 e0 xs0 he => ?_⟩
    refine hd_carry hu h1 g1 he (Q := fun e0 xs0 u W => ∃ ys, Hd W e0 xs0 u p e ys v) h2 ?_ ?_
    · rintro rfl xs u ⟨ys, hy⟩
      cases hy
      exact ⟨_, .nil⟩
    · exact fun hs ⟨ys, hy⟩ => ⟨ys, hs _ _ _ _ hy⟩
  | sub k ep p e lo len =>
    obtain ⟨en, h1, h2⟩ := h
    obtain ⟨en', g1, _⟩ := hu k en h1
    refine ⟨en', g1, fun ep0 e0 xs0 he => ?_⟩
    refine hd_carry hu h1 g1 he (Q := fun e0 xs0 u W => ∃ ys v0, Hd W e0 xs0 u p e ys v0 /\ SubH v0 lo len e.n v) h2 ?_ ?_
    · rintro rfl xs u ⟨ys, v0, hy, hs⟩
      cases hy
      exact ⟨_, _, .nil, hs⟩
    · exact fun hs ⟨ys, v0, hy, hs'⟩ => ⟨ys, v0, hs _ _ _ _ hy, hs'⟩
theorem LsRel.carry (hu : UCompat us us' G G' w w') : ∀ {ls vs}, LsRel c us G w ls vs -> LsRel c us' G' w' ls vs
  | [], [], _ => trivial
  | _ :: _, _ :: _, h => ⟨⟨h.1.1.carry hu, h.1.2⟩, LsRel.carry hu h.2⟩
  | [], _ :: _, h => h.elim
  | _ :: _, [], h => h.elim
theorem VLs.carry (hu : UCompat us us' G G' w w') {g ls v} (h : VLs c us G w g ls v) : VLs c us' G' w' g ls v := by
  cases g with
  | true => obtain ⟨vs, rfl, h⟩ := h; exact ⟨vs, rfl, h.carry hu⟩
  | false => exact LsRel.carry hu h
theorem TupRel.carry (hu : UCompat us us' G G' w w') : ∀ {l vs}, TupRel c us G w l vs -> TupRel c us' G' w' l vs
  | [], [], _ => trivial
  | (_, _) :: _, _ :: _, h => ⟨h.1.carry hu, TupRel.carry hu h.2⟩
  | [], _ :: _, h => h.elim
  | (_, _) :: _, [], h => h.elim
theorem PtrRel.carry (hu : UCompat us us' G G' w w') (hv : VCompat vs vs' G G') {p v} (h : PtrRel c us vs G w p v) : PtrRel c us' vs' G' w' p v := by
  cases p with
  | var r off =>
    obtain ⟨ls, h1, rfl⟩ := h
    obtain ⟨ls', g1, g2⟩ := hv r ls h1
    exact ⟨ls', g1, by rw [g2]⟩
  | ext e x off => exact h
  | cells ls off => obtain ⟨g, o, inner, e1, e2, e3⟩ := h; exact ⟨g, o, inner, e1, e2.carry hu, e3⟩
  | elem k ep p e i off =>
    obtain ⟨en, h1, h2⟩ := h
    obtain ⟨en', g1, g2⟩ := hu k en h1
    refine ⟨en', g1, fun ep0 e0 xs0 he => ?_⟩
    refine hd_carry hu h1 g1 he (Q := fun e0 xs0 u W => ∃ ys g o n cap, Hd W e0 xs0 u p e ys (.slice (some ⟨g, o, none⟩) n cap) /\ i < n /\ v = .pointer (some ⟨g, o + i * e.n + off, none⟩)) h2 ?_ ?_
    · rintro rfl xs u ⟨ys, g, o, n, cap, hy, hs⟩
      generalize hz : Value.slice (some ⟨g, o, none⟩) n cap = z at hy
      cases hy
      exact ⟨_, g, o, n, cap, by rw [hz]; exact .nil, hs⟩
    · exact fun hs ⟨ys, g, o, n, cap, hy, hs'⟩ => ⟨ys, g, o, n, cap, hs _ _ _ _ hy, hs'⟩
theorem VRel.carry (hu : UCompat us us' G G' w w') (hv : VCompat vs vs' G G') {x v} (h : VRel c us vs G w x v) : VRel c us' vs' G' w' x v := by
  cases x with
  | v g ls => exact VLs.carry hu h
  | ptr p => exact PtrRel.carry hu hv h
  | tup l => obtain ⟨q, rfl, h⟩ := h; exact ⟨q, rfl, TupRel.carry hu h⟩
  | u => trivial
  | no => exact h
end
end Go.Proofs.YtaflceohlijekaaGreat.Ev
namespace Go.Proofs.YtaflceohlijekaaGreat.Ev
theorem ObjKept.frozen {c : Nat -> Prop} {w w' : World} {b o : Nat} (h : ObjKept c w.heap[b]? w'.heap[b]?) : w'.frozen? ⟨b, o, none⟩ = w.frozen? ⟨b, o, none⟩ := by
  unfold World.frozen?
  rcases h with h | ⟨cs, cs', et, fr, h1, h2, h3, h4⟩
  · simp only [h]
  · simp [h1, h2]
theorem Hd.frame {w w'} : ∀ {p e xs v e' ys v' F}, Hd w e xs v p e' ys v' -> OwnL w [.ext e xs] [v] F -> (∀ b, F b -> w'.heap[b]? = w.heap[b]?) -> Hd w' e xs v p e' ys v'
  | [], e, xs, v, e', ys, v', F, h, ho, hk => by cases h; exact .nil
  | (i, off) :: p, e, xs, v, e', ys, v', F, h, ho, hk => by
    cases h with
    | step hi h1 h2 h3 =>
      rename_i g o n cap e1 ys1 v1
      obtain ⟨g', o', cap', cur, et, fr, F1, hv, a1, a2, a3, a4, a5, a6, a7, a8⟩ := ho.open_sl (by omega)
      simp only [Value.slice.injEq, Option.some.injEq, Addr.mk.injEq] at hv
      obtain ⟨⟨rfl, rfl, _⟩, rfl, rfl⟩ := hv
      have hoff := leafAt_lt _ _ _ _ h1
      have hbound : i * e.n + off < xs.length * e.n := by
        have : (i + 1) * e.n <= xs.length * e.n := Nat.mul_le_mul_right _ hi
        rw [Nat.add_mul] at this
        omega
      have hleaf : (xs.flatMap (flat e))[i * e.n + off]? = some (.ext e1 ys1) := by
        rw [flatMap_at e xs i hi off hoff]
        exact flat_leafAt _ _ _ _ _ h1
      obtain ⟨v1', Fl1, Fr1, b1, b2, b3, b4, b5⟩ := a6.focus _ _ hleaf
      have hv1 : v1' = v1 := by
        rw [List.getElem?_take, if_pos hbound, List.getElem?_drop] at b1
        rw [cellAt_of a4] at h2
        simp only [Array.getElem?_toList] at b1
        rw [b1] at h2
        simpa using h2
      subst hv1
      have hg : w'.heap[g]? = some (.cells cur et fr) := (hk g ((a8 g).2 (.inl rfl))).trans a4
      refine .step hi h1 ?_ (Hd.frame h3 b2 fun b hb => hk b ((a8 b).2 (.inr ((b4 b).2 (.inl hb)))))
      rw [cellAt_of hg, <- cellAt_of a4]
      exact h2
section
variable {c : Cx} {st : St} {G : Gh} {w : World} {tm : Nat -> Value}
theorem Rel.unitLt (h : Rel c st G w tm) {k ep e xs} (hk : getA st.us k = some (.own ep e xs)) : ∀ b, G.uf k b -> b < w.heap.size := (h.unit k ep e xs hk).lt
theorem Rel.upd (h : Rel c st G w tm) {w' : World} {Fw : Nat -> Prop} {Cw : Nat -> Nat -> Prop} (TU TV : Nat -> Prop) {us' : List (Nat × UE)} {vs' : List (Nat × List Lf)} {G' : Gh} (hk : KeptW Fw Cw w w')
    (hF : ∀ b, b < w.heap.size -> Fw b -> ∃ k ep e xs, TU k /\ getA st.us k = some (.own ep e xs) /\ G.uf k b)
    (hC : ∀ b o, b < w.heap.size -> Cw b o -> ∃ r ls j, TV r /\ getA st.vs r = some ls /\ j < ls.length /\ b = (G.va r).1 /\ o = (G.va r).2 + j)
    (hu : ∀ k, ¬ TU k -> getA us' k = getA st.us k /\ G'.uv k = G.uv k /\ G'.uf k = G.uf k)
    (hv : ∀ r, ¬ TV r -> getA vs' r = getA st.vs r /\ G'.va r = G.va r)
    (tu : ∀ k ep' e xs', TU k -> getA us' k = some (.own ep' e xs') -> OwnL w' [.ext e xs'] [G'.uv k] (G'.uf k) /\
      ∀ b, G'.uf k b -> (∃ k0 ep0 e0 xs0, TU k0 /\ getA st.us k0 = some (.own ep0 e0 xs0) /\ G.uf k0 b) \/ w.heap.size <= b)
    (tuu : ∀ k1 k2 ep1 e1 xs1 ep2 e2 xs2, TU k1 -> TU k2 -> getA us' k1 = some (.own ep1 e1 xs1) -> getA us' k2 = some (.own ep2 e2 xs2) -> k1 ≠ k2 -> Dj (G'.uf k1) (G'.uf k2))
    (tc : ∀ k en, TU k -> getA st.us k = some en -> ∃ en', getA us' k = some en' /\ ∀ ep' e' xs', en' = .own ep' e' xs' -> ∃ ep xs, en = .own ep e' xs /\ G'.uv k = G.uv k /\ ep < ep')
    (tv : ∀ r ls', TV r -> getA vs' r = some ls' -> (∃ vs, LsRel c us' G' w' ls' vs /\ (∀ j v, vs[j]? = some v -> cellAt w' (G'.va r).1 ((G'.va r).2 + j) = some v) /\ (∀ j, j < ls'.length -> w'.frozen? ⟨(G'.va r).1, (G'.va r).2 + j, none⟩ = false)) /\
      ((∃ ls, getA st.vs r = some ls /\ ls'.length = ls.length /\ G'.va r = G.va r) \/ (getA st.vs r = none /\ w.heap.size <= (G'.va r).1 /\ (G'.va r).1 < w'.heap.size)))
    (tvv : ∀ r1 r2 l1 l2, TV r1 -> TV r2 -> getA vs' r1 = some l1 -> getA vs' r2 = some l2 -> getA st.vs r1 = none -> getA st.vs r2 = none -> r1 ≠ r2 -> (G'.va r1).1 ≠ (G'.va r2).1)
    (tuv : ∀ k ep e xs r ls, TU k -> TV r -> getA us' k = some (.own ep e xs) -> getA vs' r = some ls -> getA st.vs r = none -> ¬ G'.uf k (G'.va r).1)
    (tx : ∀ r ls, TV r -> getA st.vs r = some ls -> ∃ ls', getA vs' r = some ls') : Rel c ⟨st.sl, vs', us'⟩ G' w' tm /\ UCompat st.us us' G G' w w' /\ VCompat st.vs vs' G G' := by
  have hFin : ∀ {k ep e xs}, getA st.us k = some (.own ep e xs) -> ¬ TU k -> ∀ b, G.uf k b -> ¬ Fw b /\ ∀ o, ¬ Cw b o := by
    intro k ep e xs hk1 hnt b hb
    have hlt := h.unitLt hk1 b hb
    refine ⟨fun hf => ?_, fun o hc => ?_⟩
    · obtain ⟨k2, ep2, e2, xs2, t2, g2, f2⟩ := hF b hlt hf
      exact h.dUU k k2 _ _ _ _ _ _ hk1 g2 (fun e => hnt (e ▸ t2)) b hb f2
    · obtain ⟨r, ls, j, t2, g2, _, rfl, _⟩ := hC b o hlt hc
      exact h.dUV k _ _ _ r ls hk1 g2 hb
  have hsame : ∀ {k ep e xs}, getA st.us k = some (.own ep e xs) -> ¬ TU k -> ∀ b, G.uf k b -> w'.heap[b]? = w.heap[b]? := by
    intro k ep e xs hk1 hnt b hb
    obtain ⟨a, b'⟩ := hFin hk1 hnt b hb
    exact hk.same (h.unitLt hk1 b hb) a b'
  have huc : UCompat st.us us' G G' w w' := by
    intro k en hen
    by_cases ht : TU k
    · obtain ⟨en', g1, g2⟩ := tc k en ht hen
      refine ⟨en', g1, fun ep' e' xs' he => ?_⟩
      obtain ⟨ep, xs, a1, a2, a3⟩ := g2 ep' e' xs' he
      exact ⟨ep, xs, a1, a2, Nat.le_of_lt a3, fun heq => absurd heq (by omega)⟩
    · obtain ⟨g1, g2, g3⟩ := hu k ht
      refine ⟨en, g1.trans hen, fun ep' e' xs' he => ⟨ep', xs', he, g2, Nat.le_refl _, fun _ => ⟨rfl, fun p e'' ys v' hd => ?_⟩⟩⟩
      subst he
      exact hd.frame (h.unit k _ _ _ hen) (hsame hen ht)
  have hvc : VCompat st.vs vs' G G' := by
    intro r ls hr
    by_cases ht : TV r
    · obtain ⟨ls', g⟩ := tx r ls ht hr
      refine ⟨ls', g, ?_⟩
      rcases (tv r ls' ht g).2 with ⟨_, _, _, q⟩ | ⟨q, _⟩
      · exact q
      · rw [hr] at q; cases q
    · obtain ⟨g1, g2⟩ := hv r ht
      exact ⟨ls, g1.trans hr, g2⟩
  have hkept : KeptW c.F0 c.C0 c.w0 w' := by
    refine h.kept.then hk (fun b hb hf => ?_) (fun b o hb hc => ?_)
    · obtain ⟨k, ep, e, xs, t, g, f⟩ := hF b (Nat.lt_of_lt_of_le hb h.kept.size) hf
      exact (h.fUnit k _ _ _ g b f).resolve_right (by omega)
    · obtain ⟨r, ls, j, t, g, hj, rfl, rfl⟩ := hC b o (Nat.lt_of_lt_of_le hb h.kept.size) hc
      exact .inr ((h.fVar r ls g j hj).resolve_right (by omega))
  have hvar : ∀ r ls', getA vs' r = some ls' -> TV r \/ (getA st.vs r = some ls' /\ G'.va r = G.va r /\ ¬ TV r) := by
    intro r ls' hr
    by_cases ht : TV r
    · exact .inl ht
    · obtain ⟨g1, g2⟩ := hv r ht
      exact .inr ⟨g1 ▸ hr, g2, ht⟩
  have hunit : ∀ k ep e xs, getA us' k = some (.own ep e xs) -> TU k \/ (getA st.us k = some (.own ep e xs) /\ G'.uv k = G.uv k /\ G'.uf k = G.uf k /\ ¬ TU k) := by
    intro k ep e xs hr
    by_cases ht : TU k
    · exact .inl ht
    · obtain ⟨g1, g2, g3⟩ := hu k ht
      exact .inr ⟨g1 ▸ hr, g2, g3, ht⟩
  refine ⟨⟨hkept, ?_, ?_, ?_, ?_, ?_, ?_, ?_, ?_, ?_, h.pin⟩, huc, hvc⟩
  · intro k ep e xs hk1
    rcases hunit k ep e xs hk1 with ht | ⟨g1, g2, g3, ht⟩
    · exact (tu k ep e xs ht hk1).1
    · rw [g2, g3]
      exact (h.unit k ep e xs g1).frame (hsame g1 ht)
  · intro k ep e xs hk1 b hb
    rcases hunit k ep e xs hk1 with ht | ⟨g1, g2, g3, ht⟩
    · rcases (tu k ep e xs ht hk1).2 b hb with ⟨k0, ep0, e0, xs0, _, q1, q2⟩ | q
      · exact h.fUnit k0 _ _ _ q1 b q2
      · exact .inr (Nat.le_trans h.kept.size q)
    · rw [g3] at hb
      exact h.fUnit k ep e xs g1 b hb
  · intro r ls hr
    rcases hvar r ls hr with ht | ⟨g1, g2, ht⟩
    · exact (tv r ls ht hr).1
    · obtain ⟨vs, a, b, d⟩ := h.var r ls g1
      refine ⟨vs, a.carry huc, fun j v hj => ?_, fun j hj => ?_⟩
      · rw [g2]
        have hjl : j < ls.length := by
          have hl := a.length
          rcases Nat.lt_or_ge j vs.length with q | q
          · omega
          · simp [List.getElem?_eq_none q] at hj
        have hc := b j v hj
        have hlt := cellAt_lt hc
        rw [hk.cell hlt ?_ ?_]
        · exact hc
        · intro hf
          obtain ⟨k2, ep2, e2, xs2, t2, q1, q2⟩ := hF _ hlt hf
          exact h.dUV k2 _ _ _ r ls q1 g1 q2
        · intro hcw
          obtain ⟨r2, l2, j2, t2, q1, q2, q3, q4⟩ := hC _ _ hlt hcw
          exact h.dVV r r2 ls l2 g1 q1 (fun e => ht (e ▸ t2)) j j2 hjl q2 q3 q4
      · rw [g2]
        have hlt := h.vLt r ls g1
        have hnf : ¬ Fw (G.va r).1 := by
          intro hf
          obtain ⟨k2, ep2, e2, xs2, t2, q1, q2⟩ := hF _ hlt hf
          exact h.dUV k2 _ _ _ r ls q1 g1 q2
        rw [(hk.block _ hlt hnf).frozen]
        exact d j hj
  · intro r ls hr
    rcases hvar r ls hr with ht | ⟨g1, g2, ht⟩
    · rcases (tv r ls ht hr).2 with ⟨l0, q1, q2, q3⟩ | ⟨_, _, q⟩
      · rw [q3]
        exact Nat.lt_of_lt_of_le (h.vLt r l0 q1) hk.size
      · exact q
    · rw [g2]
      exact Nat.lt_of_lt_of_le (h.vLt r ls g1) hk.size
  · intro r ls hr j hj
    rcases hvar r ls hr with ht | ⟨g1, g2, ht⟩
    · rcases (tv r ls ht hr).2 with ⟨l0, q1, q2, q3⟩ | ⟨_, q, _⟩
      · rw [q3]
        exact h.fVar r l0 q1 j (by omega)
      · exact .inr (Nat.le_trans h.kept.size q)
    · rw [g2]
      exact h.fVar r ls g1 j hj
  · intro k1 k2 ep1 e1 xs1 ep2 e2 xs2 h1 h2 hne
    rcases hunit k1 _ _ _ h1 with t1 | ⟨p1, p2, p3, p4⟩
    · rcases hunit k2 _ _ _ h2 with t2 | ⟨q1, q2, q3, q4⟩
      · exact tuu k1 k2 _ _ _ _ _ _ t1 t2 h1 h2 hne
      · intro b hb hb2
        rw [q3] at hb2
        rcases (tu k1 _ _ _ t1 h1).2 b hb with ⟨k0, _, _, _, z1, z2, z3⟩ | z
        · exact h.dUU k0 k2 _ _ _ _ _ _ z2 q1 (fun e => q4 (e ▸ z1)) b z3 hb2
        · have := h.unitLt q1 b hb2; omega
    · rcases hunit k2 _ _ _ h2 with t2 | ⟨q1, q2, q3, q4⟩
      · intro b hb hb2
        rw [p3] at hb
        rcases (tu k2 _ _ _ t2 h2).2 b hb2 with ⟨k0, _, _, _, z1, z2, z3⟩ | z
        · exact h.dUU k0 k1 _ _ _ _ _ _ z2 p1 (fun e => p4 (e ▸ z1)) b z3 hb
        · have := h.unitLt p1 b hb; omega
      · rw [p3, q3]
        exact h.dUU k1 k2 _ _ _ _ _ _ p1 q1 hne
  · intro k ep e xs r ls hk1 hr
    rcases hunit k _ _ _ hk1 with t1 | ⟨p1, p2, p3, p4⟩
    · intro hb
      rcases (tu k _ _ _ t1 hk1).2 _ hb with ⟨k0, _, _, _, z1, z2, z3⟩ | z
      · rcases hvar r ls hr with t2 | ⟨q1, q2, q3⟩
        · rcases (tv r ls t2 hr).2 with ⟨l0, y1, y2, y3⟩ | ⟨y1, y2⟩
          · rw [y3] at z3
            exact h.dUV k0 _ _ _ r l0 z2 y1 z3
          · have := h.unitLt z2 _ z3; omega
        · rw [q2] at z3
          exact h.dUV k0 _ _ _ r ls z2 q1 z3
      · rcases hvar r ls hr with t2 | ⟨q1, q2, q3⟩
        · rcases (tv r ls t2 hr).2 with ⟨l0, y1, y2, y3⟩ | ⟨y1, y2⟩
          · have := h.vLt r l0 y1
            rw [y3] at z
            omega
          · exact tuv k _ _ _ r ls t1 t2 hk1 hr y1 hb
        · have := h.vLt r _ q1
          rw [q2] at z
          omega
    · rw [p3]
      intro hb
      rcases hvar r ls hr with t2 | ⟨q1, q2, q3⟩
      · rcases (tv r ls t2 hr).2 with ⟨l0, y1, y2, y3⟩ | ⟨y1, y2⟩
        · rw [y3] at hb
          exact h.dUV k _ _ _ r l0 p1 y1 hb
        · have := h.unitLt p1 _ hb; omega
      · rw [q2] at hb
        exact h.dUV k _ _ _ r ls p1 q1 hb
  · intro r1 r2 l1 l2 h1 h2 hne j1 j2 hj1 hj2 hb ho
    have place : ∀ r ls, getA vs' r = some ls -> (∃ l0, getA st.vs r = some l0 /\ ls.length = l0.length /\ G'.va r = G.va r) \/ (TV r /\ getA st.vs r = none /\ w.heap.size <= (G'.va r).1) := by
      intro r ls hr
      rcases hvar r ls hr with t | ⟨q1, q2, q3⟩
      · rcases (tv r ls t hr).2 with ⟨l0, y1, y2, y3⟩ | ⟨y1, y2⟩
        · exact .inl ⟨l0, y1, y2, y3⟩
        · exact .inr ⟨t, y1, y2.1⟩
      · exact .inl ⟨ls, q1, rfl, q2⟩
    rcases place r1 l1 h1 with ⟨a1, a2, a3, a4⟩ | ⟨a1, a2, a3⟩
    · rcases place r2 l2 h2 with ⟨b1, b2, b3, b4⟩ | ⟨b1, b2, b3⟩
      · rw [a4] at hb ho
        rw [b4] at hb ho
        exact h.dVV r1 r2 a1 b1 a2 b2 hne j1 j2 (by omega) (by omega) hb ho
      · have := h.vLt r1 a1 a2
        rw [a4] at hb
        omega
    · rcases place r2 l2 h2 with ⟨b1, b2, b3, b4⟩ | ⟨b1, b2, b3⟩
      · have := h.vLt r2 b1 b2
        rw [b4] at hb
        omega
      · exact tvv r1 r2 l1 l2 a1 b1 h1 h2 a2 b2 hne hb
  · intro t v hv1
    exact (h.slot t v hv1).carry huc hvc
end
end Go.Proofs.YtaflceohlijekaaGreat.Ev
namespace Go.Proofs.YtaflceohlijekaaGreat.Ev
def zeroVals : Sh -> List Value
  | .int k => [.int k 0] | .bool => [.bool false] | .str => [.string ⟨#[]⟩] | .unit => [] | .sl _ => [.slice none 0 0] | .pair a b => zeroVals a ++ zeroVals b
def zeroOk : Sh -> List Value -> Option (List Value)
  | .int k, .int k' 0 :: t => if k = k' then some t else none
  | .bool, .bool false :: t => some t
  | .str, .string s :: t => if s.size = 0 then some t else none
  | .unit, l => some l
  | .sl _, .slice none 0 0 :: t => some t
  | .pair a b, l => match zeroOk a l with | some r => zeroOk b r | none => none
  | _, _ => none
theorem zeroOk_eq : ∀ (s : Sh) (l r : List Value), zeroOk s l = some r -> l = zeroVals s ++ r
  | .int k, l, r, h => by
    unfold zeroOk at h
    split at h <;> simp_all [zeroVals]
  | .bool, l, r, h => by
    unfold zeroOk at h
    split at h <;> simp_all [zeroVals]
  | .str, l, r, h => by
    cases l with
    | nil => cases h
    | cons v t =>
      cases v with
      | string s =>
        obtain ⟨d⟩ := s
        simp only [zeroOk] at h
        split at h
        · rename_i hs
          simp only [Option.some.injEq] at h
          simp only [ByteArray.size] at hs
          have := Array.eq_empty_of_size_eq_zero hs
          subst this
          subst h
          rfl
        · cases h
      | _ => cases h
  | .unit, l, r, h => by simp_all [zeroOk, zeroVals]
  | .sl _, l, r, h => by
    unfold zeroOk at h
    split at h <;> simp_all [zeroVals]
  | .pair a b, l, r, h => by
    unfold zeroOk at h
    cases ha : zeroOk a l with
    | none => simp [ha] at h
    | some q =>
      simp only [ha] at h
      have h1 := zeroOk_eq a l q ha
      have h2 := zeroOk_eq b q r h
      simp [zeroVals, h1, h2]
def fieldsOk (P : Program) (E : Env) : List (Nat × Nat) -> Nat -> Sh -> Bool
  | [], _, .unit => true
  | [(o, t)], off, s => o == off && decide ((E.ty t).sh = s) && ((P.info? t).map (·.size) == some s.n) && decide (0 < s.n)
  | (o, t) :: q :: r, off, .pair a b => o == off && decide ((E.ty t).sh = a) && ((P.info? t).map (·.size) == some a.n) && decide (0 < a.n) && fieldsOk P E (q :: r) (off + a.n) b
  | _, _, _ => false
def undOk (P : Program) (E : Env) (i : TyI) : TypeDesc -> Bool
  | .bool => (match i.d, i.sh, i.agg with | .scalar, .bool, false => true | _, _, _ => false)
  | .int k => (match i.d, i.sh, i.agg with | .scalar, .int k', false => decide (k = k') | _, _, _ => false)
  | .string => (match i.d, i.sh, i.agg with | .scalar, .str, false => true | _, _, _ => false)
  | .slice e => (match i.d, i.sh, i.agg with | .slice e', .sl s, false => e == e' && decide ((E.ty e').sh = s) | _, _, _ => false)
  | .array n e => (match i.d, i.agg with | .array n' e', true => n == n' && e == e' && decide (i.sh = prod (List.replicate n (E.ty e').sh)) && ((P.info? e).map (·.size) == some (E.ty e').sh.n) | _, _ => false)
  | .struct fs => (match i.d, i.agg with | .struct gs, true => (fs.toList.map fun f => (f.offset, f.type)) == gs && fieldsOk P E gs 0 i.sh | _, _ => false)
  | _ => false
def tyCheck (P : Program) (E : Env) (t : Nat) : Bool :=
  match P.info? t, P.underlying t with
  | some i, some d => (i.size == (E.ty t).sh.n) && decide (i.bytes * (E.ty t).lim <= 140737488355328) && decide ((E.ty t).lim <= 1152921504606846976) &&
      (match i.zero with | some z => (match zeroOk (E.ty t).sh z.cells.toList with | some [] => true | _ => false) | none => false) && undOk P E (E.ty t) d
  | _, _ => false
structure TyOk (P : Program) (E : Env) (t : Nat) : Prop where mk ::
  info : ∃ i z d, P.info? t = some i /\ P.underlying t = some d /\ i.size = (E.ty t).sh.n /\ i.bytes * (E.ty t).lim <= 140737488355328 /\ (E.ty t).lim <= 1152921504606846976 /\
    i.zero = some z /\ z.cells.toList = zeroVals (E.ty t).sh /\ undOk P E (E.ty t) d = true
theorem tyCheck_ok {P E t} (h : tyCheck P E t = true) : TyOk P E t := by
  unfold tyCheck at h
  split at h
  · rename_i i d hi hd
    simp only [Bool.and_eq_true, beq_iff_eq, decide_eq_true_eq] at h
    obtain ⟨⟨⟨⟨h1, h2⟩, h3⟩, h4⟩, h5⟩ := h
    split at h4
    · rename_i z hz
      split at h4
      · rename_i hq
        exact ⟨i, z, d, hi, hd, h1, h2, h3, hz, by simpa using zeroOk_eq _ _ _ hq, h5⟩
      · cases h4
    · cases h4
  · cases h
section
variable {P : Program} {E : Env} {t : Nat}
theorem TyOk.size (h : TyOk P E t) (w : World) : (sizeOf t).run P w = .ok (E.ty t).sh.n w := by
  obtain ⟨i, z, d, h1, _, h2, _⟩ := h.info
  simp [sizeOf, typeInfo, h1, h2]
theorem TyOk.cells (h : TyOk P E t) : P.cellsOf t = (E.ty t).sh.n := by
  obtain ⟨i, z, d, h1, _, h2, _⟩ := h.info
  simp [Program.cellsOf, h1, h2]
theorem TyOk.aggRun (h : TyOk P E t) (w : World) : (isAgg t).run P w = .ok (E.ty t).agg w := by
  obtain ⟨i, z, d, _, h2, _, _, _, _, _, h3⟩ := h.info
  have : (match d with | .struct _ | .array _ _ => true | _ => false) = (E.ty t).agg := by
    unfold undOk at h3
    cases d <;> simp only [] at h3 ⊢ <;> (try (cases h3; done)) <;> (split at h3 <;> simp_all)
  simp only [isAgg, Sem.run_bind, run_underlying h2, Result.andThen_ok]
  rw [<- this]
  cases d <;> rfl
theorem TyOk.zero (h : TyOk P E t) (w : World) : ∃ z, (zeroValue t).run P w = .ok z w /\ z.cells.toList = zeroVals (E.ty t).sh := by
  obtain ⟨i, z, d, h1, _, _, _, _, h4, h5, _⟩ := h.info
  exact ⟨z, by simp [zeroValue, typeInfo, h1, h4], h5⟩
theorem TyOk.slice (h : TyOk P E t) {e : Nat} (hd : (E.ty t).d = .slice e) : P.underlying t = some (.slice e) /\ (E.ty t).sh = .sl (E.ty e).sh /\ (E.ty t).agg = false := by
  obtain ⟨i, z, d, _, h2, _, _, _, _, _, h3⟩ := h.info
  unfold undOk at h3
  cases d <;> simp only [hd] at h3 <;> (try (cases h3; done)) <;> (try (split at h3 <;> simp_all))
theorem TyOk.struct (h : TyOk P E t) {fs : List (Nat × Nat)} (hd : (E.ty t).d = .struct fs) :
    ∃ fields, P.underlying t = some (.struct fields) /\ fields.toList.map (fun f => (f.offset, f.type)) = fs /\ fieldsOk P E fs 0 (E.ty t).sh = true /\ (E.ty t).agg = true := by
  obtain ⟨i, z, d, _, h2, _, _, _, _, _, h3⟩ := h.info
  unfold undOk at h3
  cases d <;> simp only [hd] at h3 <;> (try (cases h3; done)) <;> (try (split at h3 <;> simp_all; done))
theorem TyOk.array (h : TyOk P E t) {n e : Nat} (hd : (E.ty t).d = .array n e) :
    P.underlying t = some (.array n e) /\ (E.ty t).sh = prod (List.replicate n (E.ty e).sh) /\ ((P.info? e).map (·.size)) = some (E.ty e).sh.n := by
  obtain ⟨i, z, d, _, h2, _, _, _, _, _, h3⟩ := h.info
  unfold undOk at h3
  cases d <;> simp only [hd] at h3 <;> (try (cases h3; done)) <;> (try (split at h3 <;> simp_all; done))
  rename_i n' e'
  cases ha : (E.ty t).agg with
  | false => simp [ha] at h3
  | true =>
    simp only [ha, Bool.and_eq_true, beq_iff_eq, decide_eq_true_eq] at h3
    obtain ⟨⟨⟨rfl, rfl⟩, h5⟩, h6⟩ := h3
    exact ⟨h2, h5, h6⟩
theorem TyOk.bool (h : TyOk P E t) (hs : (E.ty t).sh = .bool) (ha : (E.ty t).agg = false) : P.underlying t = some .bool := by
  obtain ⟨i, z, d, _, h2, _, _, _, _, _, h3⟩ := h.info
  unfold undOk at h3
  cases d <;> simp only [ha, hs] at h3 <;> (try (cases h3; done)) <;> (try (split at h3 <;> simp_all; done))
theorem TyOk.isStr (h : TyOk P E t) (hs : (E.ty t).isStr = true) : P.underlying t = some .string := by
  obtain ⟨i, z, d, _, h2, _, _, _, _, _, h3⟩ := h.info
  unfold undOk at h3
  unfold TyI.isStr at hs
  split at hs
  · rename_i e1 e2
    cases d <;> simp only [e1, e2] at h3 <;> (try (cases h3; done)) <;> (try (split at h3 <;> simp_all; done))
  · cases hs
theorem TyOk.isSlice (h : TyOk P E t) (hs : (E.ty t).isSlice = true) : ∃ e, P.underlying t = some (.slice e) /\ (E.ty t).d = .slice e := by
  unfold TyI.isSlice at hs
  split at hs
  · rename_i e he
    exact ⟨e, (h.slice he).1, he⟩
  · cases hs
theorem TyOk.scalar (h : TyOk P E t) (hd : (E.ty t).d = .scalar) : ∃ d, P.underlying t = some d /\
    ((d = .bool /\ (E.ty t).sh = .bool) \/ (∃ k, d = .int k /\ (E.ty t).sh = .int k) \/ (d = .string /\ (E.ty t).sh = .str)) /\ (E.ty t).agg = false := by
  obtain ⟨i, z, d, _, h2, _, _, _, _, _, h3⟩ := h.info
  unfold undOk at h3
  refine ⟨d, h2, ?_⟩
  cases d <;> simp only [hd] at h3 <;> (try (cases h3; done)) <;> (split at h3 <;> simp_all)
end
end Go.Proofs.YtaflceohlijekaaGreat.Ev
namespace Go.Proofs.YtaflceohlijekaaGreat.Ev
def tmOf (a : Act) (t : Nat) : Value := a.tmps.getD t undef
theorem tm_put (a : Act) (d : Nat) (v : Value) (hd : d < a.tmps.size) (t : Nat) : tmOf (a.put (some d) v) t = if t = d then v else tmOf a t := by
  simp only [tmOf, Act.put, Array.getD_eq_getD_getElem?]
  by_cases h : t = d
  · subst h; simp [hd]
  · rw [Array.getElem?_setIfInBounds_ne (fun e => h e.symm), if_neg h]
theorem Rel.put {c st G w} {a : Act} (h : Rel c st G w (tmOf a)) {d : Nat} (hd : d < a.tmps.size /\ c.pin d = none) {x : AV} {v : Value} (hv : VRel c st.us st.vs G w x v) :
    Rel c { st with sl := (d, x) :: st.sl } G w (tmOf (a.put (some d) v)) :=
  { h with
    slot := fun t y hy => by
      simp only [getA_cons] at hy
      rw [tm_put a d v hd.1]
      split at hy
      · rename_i e
        subst e
        simp only [Option.some.injEq] at hy
        subst hy
        rw [if_pos rfl]
        exact hv
      · rename_i hne
        rw [if_neg (fun e => hne e.symm)]
        exact h.slot t y hy
    pin := fun t y hy => by
      rw [tm_put a d v hd.1]
      split
      · rename_i e
        rw [e, hd.2] at hy
        cases hy
      · exact h.pin t y hy }
def After (c : Cx) (a : Act) (K : Act -> World -> Prop) (st' : St) : Prop :=
  ∀ G' a' w', Rel c st' G' w' (tmOf a') -> a'.defers = a.defers -> a'.tmps.size = a.tmps.size -> K a' w'
section
variable {P : Program} {E : Env} {c : Cx} {st : St} {G G' : Gh} {w w' : World} {a : Act} {o : Oper} {K : Act -> World -> Prop} {Q : Exit -> Act -> World -> Prop}
theorem put_rel {e : Eff} {val : Value} (h' : Rel c ⟨st.sl, e.nv ++ st.vs, e.nu ++ st.us⟩ G' w' (tmOf a)) (hv : VRel c (e.nu ++ st.us) (e.nv ++ st.vs) G' w' e.v val)
    (hd : ∀ d, o.dst = some d -> d < a.tmps.size /\ c.pin d = none) : Rel c (e.apply o.dst st) G' w' (tmOf (a.put o.dst val)) := by
  cases ho : o.dst with
  | none => exact h'
  | some d => exact h'.put (hd d ho) hv
theorem put_keeps (a : Act) (d : Option Tmp) (v : Value) : (a.put d v).defers = a.defers /\ (a.put d v).tmps.size = a.tmps.size := by
  cases d <;> simp [Act.put]
theorem wp_done {val : Value} (hrun : (execOp a.eval o).run P w = .ok (.value val) w') {e : Eff} (h' : Rel c ⟨st.sl, e.nv ++ st.vs, e.nu ++ st.us⟩ G' w' (tmOf a))
    (hv : VRel c (e.nu ++ st.us) (e.nv ++ st.vs) G' w' e.v val) (hd : ∀ d, o.dst = some d -> d < a.tmps.size /\ c.pin d = none) (hk : After c a K (e.apply o.dst st)) : o.wp P a w K Q := by
  unfold Oper.wp
  rw [hrun]
  exact hk G' _ w' (put_rel h' hv hd) (put_keeps _ _ _).1 (put_keeps _ _ _).2
theorem wp_skipped (hrun : (execOp a.eval o).run P w = .ok .skip w') {e : Eff} (he : e.v = .u) (h' : Rel c ⟨st.sl, e.nv ++ st.vs, e.nu ++ st.us⟩ G' w' (tmOf a))
    (hd : ∀ d, o.dst = some d -> d < a.tmps.size /\ c.pin d = none) (hk : After c a K (e.apply o.dst st)) : o.wp P a w K Q := by
  unfold Oper.wp
  rw [hrun]
  exact hk G' _ w' (put_rel h' (by rw [he]; trivial) hd) (put_keeps _ _ _).1 (put_keeps _ _ _).2
theorem wp_now {val : Value} {v : AV} (h : Rel c st G w (tmOf a)) (hrun : (execOp a.eval o).run P w = .ok (.value val) w) (hv : VRel c st.us st.vs G w v val)
    (hd : ∀ d, o.dst = some d -> d < a.tmps.size /\ c.pin d = none) (hk : After c a K (Eff.apply ⟨v, [], []⟩ o.dst st)) : o.wp P a w K Q :=
  wp_done (e := ⟨v, [], []⟩) hrun h hv hd hk
theorem operand_rel (h : Rel c st G w (tmOf a)) {x : Operand} {v : AV} (ho : operand st x = some v) : VRel c st.us st.vs G w v (a.eval x) := by
  unfold operand at ho
  split at ho
  · exact h.slot _ _ ho
  · simp only [Option.some.injEq] at ho; subst ho; exact ⟨⟨rfl, rfl⟩, trivial⟩
  · simp only [Option.some.injEq] at ho; subst ho; exact ⟨⟨rfl, rfl⟩, trivial⟩
  · simp only [Option.some.injEq] at ho; subst ho; exact ⟨⟨rfl, rfl⟩, trivial⟩
  · cases ho
theorem operandT_rel (h : Rel c st G w (tmOf a)) {x : Operand} {t : Nat} {v : AV} (ho : operandT E st t x = some v) : VRel c st.us st.vs G w v (a.eval x) := by
  unfold operandT at ho
  split at ho
  · split at ho
    · simp only [Option.some.injEq] at ho; subst ho; exact ⟨⟨rfl, rfl⟩, trivial⟩
    · cases ho
  · exact operand_rel h ho
theorem runAlts_one {R : Type} {k : Eff -> Option R} {b : Bool} {e : Eff} {r : R} (h : runAlts k [(b, e)] = some r) : b = true /\ k e = some r := by
  cases b with
  | true => exact ⟨rfl, h⟩
  | false => cases h
theorem v_int {k : IntKind} {x : Int} {v : Value} (h : VRel c st.us st.vs G w (.v false [.int k x]) v) : v = .int k x := h.1.1
theorem v_bool {b : Bool} {v : Value} (h : VRel c st.us st.vs G w (.v false [.bool b]) v) : v = .bool b := h.1.1
theorem v_str {s : ByteArray} {v : Value} (h : VRel c st.us st.vs G w (.v false [.str s]) v) : v = .string s := h.1.1
theorem mk_int {us vs} (k : IntKind) (x : Int) : VRel c us vs G w (.v false [.int k x]) (.int k x) := ⟨⟨rfl, rfl⟩, trivial⟩
theorem mk_bool {us vs} (b : Bool) : VRel c us vs G w (.v false [.bool b]) (.bool b) := ⟨⟨rfl, rfl⟩, trivial⟩
theorem mk_str {us vs} (s : ByteArray) : VRel c us vs G w (.v false [.str s]) (.string s) := ⟨⟨rfl, rfl⟩, trivial⟩
theorem VLs.one {us : List (Nat × UE)} {ls v} (h : VLs c us G w false ls v) : ∃ l, ls = [l] /\ LfRel c us G w l v /\ v.oneCell' = true := by
  match ls, h with
  | [l], h => exact ⟨l, rfl, h.1.1, h.1.2⟩
  | [], h => exact h.elim
  | _ :: _ :: _, h => exact h.2.elim
theorem TupRel.at {us : List (Nat × UE)} : ∀ {l : List (Bool × List Lf)} {vs : List Value} {i : Nat} {g ls}, TupRel c us G w l vs -> l[i]? = some (g, ls) -> ∃ v, vs[i]? = some v /\ VLs c us G w g ls v
  | (g, ls) :: t, v :: vs, 0, g', ls', h, hi => by
    simp only [List.getElem?_cons_zero, Option.some.injEq, Prod.mk.injEq] at hi
    obtain ⟨rfl, rfl⟩ := hi
    exact ⟨v, rfl, h.1⟩
  | (_, _) :: t, v :: vs, i + 1, g', ls', h, hi => by
    obtain ⟨v', h1, h2⟩ := TupRel.at (i := i) h.2 (by simpa using hi)
    exact ⟨v', by simpa using h1, h2⟩
  | [], _, _, _, _, _, hi => by simp at hi
  | (_, _) :: _, [], _, _, _, h, _ => h.elim
variable {R : Type} {call : E.Call} {k : Eff -> Option R} {r : R} {p : Plan E}
theorem snd_move (h : Rel c st G w (tmOf a)) (hd : ∀ d, o.dst = some d -> d < a.tmps.size /\ c.pin d = none) (hk : ∀ e, k e = some r -> After c a K (e.apply o.dst st))
    {x : Operand} (hop : o.op = .move x \/ o.op = .assign x) (hp : pre E o st = some p) (hr : runPlan E call k p = some r) : o.wp P a w K Q := by
  have hrun : (execOp a.eval o).run P w = .ok (.value (a.eval x)) w := by rcases hop with hop | hop <;> simp [execOp, hop]
  have hp' : preMove E st o.type x = some p := by rcases hop with hop | hop <;> simpa [pre, hop] using hp
  unfold preMove at hp'
  split at hp'
  · rename_i v hv
    cases hp'
    exact wp_now h hrun (operandT_rel h hv) hd (hk _ (runAlts_one hr).2)
  · cases hp'
theorem snd_pick (h : Rel c st G w (tmOf a)) (hd : ∀ d, o.dst = some d -> d < a.tmps.size /\ c.pin d = none) (hk : ∀ e, k e = some r -> After c a K (e.apply o.dst st))
    {x y z : Operand} (hop : o.op = .pick x y z) (hp : pre E o st = some p) (hr : runPlan E call k p = some r) : o.wp P a w K Q := by
  simp only [pre, hop] at hp
  split at hp
  · rename_i hx
    have hb := v_bool (operand_rel h hx)
    split at hp
    · rename_i v hv
      cases hp
      exact wp_now h (by simp [execOp, hop, hb, asBool]) (operand_rel h hv) hd (hk _ (runAlts_one hr).2)
    · cases hp
  · rename_i hx
    have hb := v_bool (operand_rel h hx)
    split at hp
    · rename_i v hv
      cases hp
      exact wp_now h (by simp [execOp, hop, hb, asBool]) (operand_rel h hv) hd (hk _ (runAlts_one hr).2)
    · cases hp
  · cases hp
theorem snd_extract (h : Rel c st G w (tmOf a)) (hd : ∀ d, o.dst = some d -> d < a.tmps.size /\ c.pin d = none) (hk : ∀ e, k e = some r -> After c a K (e.apply o.dst st))
    {x : Operand} {i : Nat} (hop : o.op = .extract x i) (hp : pre E o st = some p) (hr : runPlan E call k p = some r) : o.wp P a w K Q := by
  simp only [pre, hop] at hp
  split at hp
  · rename_i l hx
    obtain ⟨vs, h1, h2⟩ := operand_rel h hx
    split at hp
    · rename_i g ls hi
      cases hp
      obtain ⟨v, h3, h4⟩ := h2.at hi
      exact wp_now h (by simp [execOp, hop, h1, Instr.extract, h3]) (show VRel c st.us st.vs G w (.v g ls) v from h4) hd (hk _ (runAlts_one hr).2)
    · cases hp
  · cases hp
theorem snd_index (h : Rel c st G w (tmOf a)) (hd : ∀ d, o.dst = some d -> d < a.tmps.size /\ c.pin d = none) (hk : ∀ e, k e = some r -> After c a K (e.apply o.dst st))
    {x i : Operand} {t : Nat} (hop : o.op = .index t x i) (hs : P.underlying t = some .string) (hp : pre E o st = some p) (hr : runPlan E call k p = some r) : o.wp P a w K Q := by
  simp only [pre, hop, preIndex] at hp
  split at hp
  · rename_i s kk j hx hi
    cases hp
    obtain ⟨hc, hke⟩ := runAlts_one hr
    simp only [Bool.and_eq_true, decide_eq_true_eq] at hc
    have h1 := v_str (operand_rel h hx)
    have h2 := v_int (operand_rel h hi)
    have hlt : j.toNat < s.size := by omega
    have : (Instr.index t (.string s) (.int kk j)).run P w = .ok (.int .u8 (bytesIdx s j)) w := by
      simp [Instr.index, asIntOf, run_underlying hs, hc.1, hlt, bytesIdx]
    exact wp_now h (by simp [execOp, hop, h1, h2, this]) (mk_int _ _) hd (hk _ hke)
  · cases hp
theorem snd_unOp (h : Rel c st G w (tmOf a)) (hd : ∀ d, o.dst = some d -> d < a.tmps.size /\ c.pin d = none) (hk : ∀ e, k e = some r -> After c a K (e.apply o.dst st))
    {x : Operand} {op : UnOp} {t : Nat} (hop : o.op = .unOp op t x) (hp : pre E o st = some p) (hr : runPlan E call k p = some r) : o.wp P a w K Q := by
  simp only [pre, hop] at hp
  split at hp
  · rename_i b hx
    cases hp
    have h1 := v_bool (operand_rel h hx)
    exact wp_now h (by simp [execOp, hop, h1, Op.unary]) (mk_bool _) hd (hk _ (runAlts_one hr).2)
  · rename_i kk n hx
    cases hp
    have h1 := v_int (operand_rel h hx)
    exact wp_now h (by simp [execOp, hop, h1, Op.unary, Op.intArith]) (mk_int _ _) hd (hk _ (runAlts_one hr).2)
  · cases hp
def valOf : Lf -> Value
  | .int k x => .int k x | .bool b => .bool b | .str s => .string s | _ => .slice none 0 0
def isScalar : Lf -> Bool
  | .int .. | .bool _ | .str _ => true | _ => false
theorem valOf_rel {us vs} {l : Lf} (h : isScalar l = true) : VRel c us vs G w (.v false [l]) (valOf l) := by
  cases l <;> first | exact ⟨⟨rfl, rfl⟩, trivial⟩ | cases h
theorem run_intOp {op : BinOp} {kk : IntKind} {x y : Int} {b : Bool} {l : Lf} (hb : b = true) (h : intOp op kk x y = some (b, l)) (t : Nat) :
    (binOp op t (.int kk x) (.int kk y)).run P w = .ok (valOf l) w /\ isScalar l = true := by
  unfold intOp at h
  split at h <;> (first | (cases h; done) | (simp only [Option.some.injEq, Prod.mk.injEq] at h; obtain ⟨rfl, rfl⟩ := h))
  all_goals refine ⟨?_, rfl⟩
  all_goals first
    | (simp [binOp, Op.intArith, Op.intBits, Op.intCmp, bits, valOf]; done)
    | (simp only [Bool.not_eq_true', decide_eq_false_iff_not] at hb
       simp [binOp, Op.intDiv, hb, valOf])
theorem run_shiftOp {op : BinOp} {kk yk : IntKind} {x y : Int} {b : Bool} {l : Lf} (hb : b = true) (h : shiftOp op kk x y = some (b, l)) (t : Nat) :
    (binOp op t (.int kk x) (.int yk y)).run P w = .ok (valOf l) w /\ isScalar l = true := by
  unfold shiftOp at h
  split at h <;> (first | (cases h; done) | (simp only [Option.some.injEq, Prod.mk.injEq] at h; obtain ⟨rfl, rfl⟩ := h))
  all_goals (
    simp only [Bool.not_eq_true', decide_eq_false_iff_not] at hb
    exact ⟨by simp [binOp, Op.shift, hb, valOf], rfl⟩)
theorem run_strOp {op : BinOp} {x y : ByteArray} {b : Bool} {l : Lf} (hb : b = true) (h : strOp op x y = some (b, l)) (t : Nat) :
    (binOp op t (.string x) (.string y)).run P w = .ok (valOf l) w /\ isScalar l = true := by
  unfold strOp at h
  split at h <;> (first | (cases h; done) | (simp only [Option.some.injEq, Prod.mk.injEq] at h; obtain ⟨h1, rfl⟩ := h))
  · rw [hb] at h1
    have h1 := of_decide_eq_true h1
    unfold strMax at h1
    refine ⟨?_, rfl⟩
    have : ¬ (((x.size + y.size : Nat) : Int) > IntKind.i64.max) := by
      have : IntKind.i64.max = 9223372036854775807 := by decide
      omega
    simp only [binOp, Op.stringOp]
    rw [if_neg this]
    rfl
  · exact ⟨by simp [binOp, Op.stringOp, valOf], rfl⟩
  · exact ⟨by simp [binOp, Op.stringOp, valOf], rfl⟩
theorem run_eqGuard_plain {op : BinOp} {t : Nat} {x y : Operand} {u v : Value} (hu : (∀ cs, u ≠ .agg cs) /\ u ≠ .nilIface) : (eqGuard op t x y u v).run P w = .ok () w := by
  unfold eqGuard
  cases u <;> (first | (simp at hu; done) | skip) <;> (split <;> simp_all)
end
end Go.Proofs.YtaflceohlijekaaGreat.Ev
namespace Go.Proofs.YtaflceohlijekaaGreat.Ev
theorem beq_of {a b : Nat} (h : Nat.beq a b = true) : a = b := Nat.eq_of_beq_eq_true h
theorem content_own {us : List (Nat × UE)} {k ep : Nat} {p : Path} {e' : Sh} {ys : List e'.T} (h : content us k ep p e' = some ys) :
    ∃ ep0 e0 xs0, getA us k = some (.own ep0 e0 xs0) /\ (p = [] \/ ep = ep0) /\ descend p e0 xs0 e' = some ys := by
  unfold content at h
  split at h
  · rename_i ep0 e0 xs0 hk
    split at h
    · exact ⟨ep0, e0, xs0, hk, .inl rfl, h⟩
    · rename_i q t
      cases hb : Nat.beq ep ep0 with
      | true => rw [hb] at h; exact ⟨ep0, e0, xs0, hk, .inr (beq_of hb), h⟩
      | false => rw [hb] at h; cases h
  · cases h
theorem flat_ext : ∀ (s : Sh) (x : s.T) (j : Nat) (e : Sh) (ys : List e.T), (flat s x)[j]? = some (.ext e ys) -> leafAt s x j = some ⟨e, ys⟩
  | .sl e, xs, j, e', ys, h => by
    cases j with
    | zero =>
      simp only [flat, List.getElem?_cons_zero, Option.some.injEq, Lf.ext.injEq] at h
      obtain ⟨rfl, h⟩ := h
      cases h
      rfl
    | succ j => simp [flat] at h
  | .pair a b, x, j, e, ys, h => by
    simp only [flat] at h
    unfold leafAt
    cases hb : Nat.blt j a.n with
    | true =>
      rw [List.getElem?_append_left (by rw [flat_length]; exact blt_true hb)] at h
      exact flat_ext a x.1 j e ys h
    | false =>
      rw [List.getElem?_append_right (by rw [flat_length]; exact blt_false hb), flat_length] at h
      exact flat_ext b x.2 (j - a.n) e ys h
  | .int _, _, j, _, _, h => by cases j <;> simp [flat] at h
  | .bool, _, j, _, _, h => by cases j <;> simp [flat] at h
  | .str, _, j, _, _, h => by cases j <;> simp [flat] at h
  | .unit, _, j, _, _, h => by simp [flat] at h
theorem Hd.snoc {w} : ∀ {p e0 xs0 u e xs g o n cap}, Hd w e0 xs0 u p e xs (.slice (some ⟨g, o, none⟩) n cap) -> ∀ {i off : Nat} {e1 : Sh} {ys : List e1.T} {v1 : Value} (hi : i < xs.length),
    leafAt e xs[i] off = some ⟨e1, ys⟩ -> cellAt w g (o + (i * e.n + off)) = some v1 -> Hd w e0 xs0 u (p ++ [(i, off)]) e1 ys v1
  | [], e0, xs0, u, e, xs, g, o, n, cap, h, i, off, e1, ys, v1, hi, h1, h2 => by
    generalize hz : Value.slice (some ⟨g, o, none⟩) n cap = z at h
    cases h
    subst hz
    exact .step hi h1 h2 .nil
  | (i0, off0) :: p, e0, xs0, u, e, xs, g, o, n, cap, h, i, off, e1, ys, v1, hi, h1, h2 => by
    cases h with
    | step a b c d => exact .step a b c (Hd.snoc d hi h1 h2)
section
variable {P : Program} {E : Env} {c : Cx} {st : St} {G G' : Gh} {w w' : World} {a : Act} {o : Oper} {K : Act -> World -> Prop} {Q : Exit -> Act -> World -> Prop} {tm : Nat -> Value}
theorem LsRel.append {us : List (Nat × UE)} : ∀ {l1 v1 l2 v2}, LsRel c us G w l1 v1 -> LsRel c us G w l2 v2 -> LsRel c us G w (l1 ++ l2) (v1 ++ v2)
  | [], [], _, _, _, k => k
  | _ :: _, _ :: _, _, _, h, k => ⟨h.1, LsRel.append h.2 k⟩
  | [], _ :: _, _, _, h, _ => h.elim
  | _ :: _, [], _, _, h, _ => h.elim
theorem LsRel.drop {us : List (Nat × UE)} : ∀ {ls vs} (n : Nat), LsRel c us G w ls vs -> LsRel c us G w (ls.drop n) (vs.drop n)
  | _, _, 0, h => h
  | [], [], _ + 1, _ => trivial
  | _ :: _, _ :: _, n + 1, h => LsRel.drop n h.2
  | [], _ :: _, _, h => h.elim
  | _ :: _, [], _, h => h.elim
theorem LsRel.take {us : List (Nat × UE)} : ∀ {ls vs} (n : Nat), LsRel c us G w ls vs -> LsRel c us G w (ls.take n) (vs.take n)
  | _, _, 0, _ => trivial
  | [], [], _ + 1, _ => trivial
  | _ :: _, _ :: _, n + 1, h => ⟨h.1, LsRel.take n h.2⟩
  | [], _ :: _, _, h => h.elim
  | _ :: _, [], _, h => h.elim
theorem LsRel.one {us : List (Nat × UE)} : ∀ {ls vs}, LsRel c us G w ls vs -> ∀ v ∈ vs, v.oneCell' = true
  | [], [], _, v, hv => by cases hv
  | _ :: _, _ :: _, h, v, hv => by
    cases hv with
    | head => exact h.1.2
    | tail _ hv => exact LsRel.one h.2 v hv
  | [], _ :: _, h, _, _ => h.elim
  | _ :: _, [], h, _, _ => h.elim
theorem RdL.ls {us : List (Nat × UE)} {ls vs} (h : RdL c.w0 c.ok ls vs) : LsRel c us G w ls vs := by
  induction h with
  | nil => trivial
  | int _ ih => exact ⟨⟨rfl, rfl⟩, ih⟩
  | bool _ ih => exact ⟨⟨rfl, rfl⟩, ih⟩
  | str _ ih => exact ⟨⟨rfl, rfl⟩, ih⟩
  | sl0 _ ih => exact ⟨⟨.sl0 .nil, rfl⟩, ih⟩
  | sl h1 h2 h3 h4 _ _ ih => exact ⟨⟨.sl h1 h2 h3 h4 .nil, rfl⟩, ih⟩
theorem flatP_ls {us : List (Nat × UE)} (mk : Nat -> Sh -> Lf) : ∀ (s : Sh) (x : s.T) (off : Nat) (inner : List Value) (F : Nat -> Prop), OwnL w (flat s x) inner F ->
    (∀ j e ys v, (flat s x)[j]? = some (.ext e ys) -> inner[j]? = some v -> LfRel c us G w (mk (off + j) e) v) -> LsRel c us G w (flatP mk s x off) inner
  | .int k, x, off, inner, F, h, hm => by cases h with | int h => cases h; exact ⟨⟨rfl, rfl⟩, trivial⟩
  | .bool, x, off, inner, F, h, hm => by cases h with | bool h => cases h; exact ⟨⟨rfl, rfl⟩, trivial⟩
  | .str, x, off, inner, F, h, hm => by cases h with | str h => cases h; exact ⟨⟨rfl, rfl⟩, trivial⟩
  | .unit, x, off, inner, F, h, hm => by cases h; exact trivial
  | .sl e, xs, off, inner, F, h, hm => by
    have h1 : ∀ v, inner[0]? = some v -> LfRel c us G w (mk off e) v := fun v hv => by simpa using hm 0 e xs v rfl hv
    simp only [flat] at h
    cases h with
    | nl h => cases h; exact ⟨⟨h1 _ rfl, rfl⟩, trivial⟩
    | sl _ _ _ _ _ _ _ _ h => cases h; exact ⟨⟨h1 _ rfl, rfl⟩, trivial⟩
  | .pair a b, x, off, inner, F, h, hm => by
    simp only [flat] at h hm
    obtain ⟨v1, v2, F1, F2, rfl, h1, h2, _, _⟩ := h.split
    have l1 : v1.length = a.n := by rw [h1.length, flat_length]
    refine LsRel.append (flatP_ls mk a x.1 off v1 F1 h1 fun j e ys v hj hv => ?_) (flatP_ls mk b x.2 (off + a.n) v2 F2 h2 fun j e ys v hj hv => ?_)
    · have hjl : j < v1.length := by
        rcases Nat.lt_or_ge j v1.length with q | q
        · exact q
        · simp [List.getElem?_eq_none q] at hv
      exact hm j e ys v (by rw [List.getElem?_append_left (by rw [flat_length]; omega)]; exact hj) (by rw [List.getElem?_append_left hjl]; exact hv)
    · have := hm (a.n + j) e ys v (by rw [List.getElem?_append_right (by rw [flat_length]; omega), flat_length, Nat.add_sub_cancel_left]; exact hj) (by rw [List.getElem?_append_right (by omega), l1, Nat.add_sub_cancel_left]; exact hv)
      rw [<- Nat.add_assoc] at this
      exact this
theorem Rel.okCell (h : Rel c st G w tm) {b o : Nat} (hok : c.ok b o) : cellAt w b o = cellAt c.w0 b o := h.kept.cell hok.1 hok.2.1 hok.2.2
theorem Rel.elemAt (h : Rel c st G w tm) {k ep : Nat} {p : Path} {e : Sh} {i off : Nat} {v : Value} (hv : PtrRel c st.us st.vs G w (.elem k ep p e i off) v) {xs : List e.T} (hc : content st.us k ep p e = some xs) :
    ∃ ep0 e0 xs0 g o cap, getA st.us k = some (.own ep0 e0 xs0) /\ (p = [] \/ ep = ep0) /\ Hd w e0 xs0 (G.uv k) p e xs (.slice (some ⟨g, o, none⟩) xs.length cap) /\ i < xs.length /\ v = .pointer (some ⟨g, o + i * e.n + off, none⟩) := by
  obtain ⟨ep0, e0, xs0, hk, hp, hdesc⟩ := content_own hc
  obtain ⟨en, h1, h2⟩ := hv
  rw [hk] at h1
  cases h1
  obtain ⟨ys, g, o, n, cap, hd, hi, rfl⟩ := (h2 _ _ _ rfl).2 hp
  have := hd.descend
  rw [hdesc] at this
  cases this
  obtain ⟨Fl, Fr, h3, _⟩ := hd.own (h.unit k _ _ _ hk)
  obtain ⟨A, cap', h4⟩ := h3.slice_form
  cases h4
  exact ⟨ep0, e0, xs0, g, o, _, hk, hp, hd, hi, rfl⟩
theorem LsRel.at {us : List (Nat × UE)} : ∀ {ls : List Lf} {vs : List Value} {j : Nat} {l : Lf} {v : Value}, LsRel c us G w ls vs -> ls[j]? = some l -> vs[j]? = some v -> LfRel c us G w l v /\ v.oneCell' = true
  | l :: ls, v :: vs, 0, _, _, h, h1, h2 => by
    simp only [List.getElem?_cons_zero, Option.some.injEq] at h1 h2
    subst h1; subst h2
    exact h.1
  | l :: ls, v :: vs, j + 1, _, _, h, h1, h2 => LsRel.at h.2 (by simpa using h1) (by simpa using h2)
  | [], [], _, _, _, _, h1, _ => by simp at h1
  | [], _ :: _, _, _, _, h, _, _ => h.elim
  | _ :: _, [], _, _, _, h, _, _ => h.elim
theorem Rel.readP (h : Rel c st G w tm) {q : Ptr} {v : Value} (hv : PtrRel c st.us st.vs G w q v) {n : Nat} {ls : List Lf} (hr : Ev.readP st n q = some ls) :
    ∃ g o cs, v = .pointer (some ⟨g, o, none⟩) /\ LsRel c st.us G w ls cs /\ cs.length = n /\ ∀ j u, cs[j]? = some u -> cellAt w g (o + j) = some u := by
  cases q with
  | var r off =>
    obtain ⟨l, h1, rfl⟩ := hv
    simp only [Ev.readP, h1] at hr
    split at hr
    · rename_i hle
      cases hr
      obtain ⟨vs, a1, a2, a3⟩ := h.var r l h1
      have hlen := a1.length
      refine ⟨_, _, (vs.drop off).take n, rfl, (a1.drop off).take n, by simp; omega, fun j u hj => ?_⟩
      rw [List.getElem?_take] at hj
      split at hj
      · rw [List.getElem?_drop] at hj
        have := a2 _ _ hj
        rwa [<- Nat.add_assoc] at this
      · cases hj
    · cases hr
  | cells l off =>
    obtain ⟨g, o, inner, rfl, h1, h2⟩ := hv
    simp only [Ev.readP] at hr
    split at hr
    · rename_i hle
      cases hr
      have hlen := h1.length
      refine ⟨g, o + off, (inner.drop off).take n, rfl, (LsRel.drop off h1).take n, by simp; omega, fun j u hj => ?_⟩
      rw [List.getElem?_take] at hj
      split at hj
      · rw [List.getElem?_drop] at hj
        obtain ⟨p1, p2⟩ := h2 _ _ hj
        rw [Nat.add_assoc, h.okCell p2]
        exact p1
      · cases hj
    · cases hr
  | ext e x off =>
    obtain ⟨g, o, inner, rfl, h1, h2, h3⟩ := hv
    simp only [Ev.readP] at hr
    split at hr
    · rename_i hle
      cases hr
      refine ⟨g, o + off, (inner.drop off).take n, rfl, (LsRel.drop off h3.ls).take n, by simp; omega, fun j u hj => ?_⟩
      rw [List.getElem?_take] at hj
      split at hj
      · rw [List.getElem?_drop] at hj
        obtain ⟨p1, p2⟩ := h2 _ _ hj
        rw [Nat.add_assoc, h.okCell p2]
        exact p1
      · cases hj
    · cases hr
  | elem k ep p e i off =>
    simp only [Ev.readP] at hr
    split at hr
    · rename_i xs hc
      obtain ⟨ep0, e0, xs0, g, o, cap, hk, hp, hd, hi, rfl⟩ := h.elemAt hv hc
      split at hr
      · rename_i hle
        cases hr
        obtain ⟨Fl, Fr, h3, _⟩ := hd.own (h.unit k _ _ _ hk)
        obtain ⟨g', o', cap', cur, et, fr, inner, Fi, Fr', b1, b2, b3, b4, b5, b6, b7, _⟩ := h3.elem i hi
        simp only [Value.slice.injEq, Option.some.injEq, Addr.mk.injEq] at b1
        obtain ⟨⟨rfl, rfl, _⟩, _, rfl⟩ := b1
        have hcell : ∀ j u, inner[j]? = some u -> cellAt w g (o + i * e.n + j) = some u := by
          intro j u hj
          have hjl : j < inner.length := by
            rcases Nat.lt_or_ge j inner.length with q | q
            · exact q
            · simp [List.getElem?_eq_none q] at hj
          rw [cellAt_of b2, b6 j (by omega)]
          exact hj
        have hls : LsRel c st.us G w (flatP (fun o e' => .own k (epOf st.us k) (p ++ [(i, o)]) e') e (xs.getD i e.dflt) 0) inner := by
          rw [getD_at _ _ _ hi]
          refine flatP_ls _ e xs[i] 0 inner Fi b7 fun j e1 ys u hj hu => ?_
          refine ⟨_, hk, fun ep1 e1' xs1 he => ?_⟩
          cases he
          have hep : epOf st.us k = ep0 := by simp [epOf, hk]
          rw [hep]
          refine ⟨fun _ => Nat.le_refl _, fun _ => ⟨ys, ?_⟩⟩
          refine hd.snoc hi (flat_ext _ _ _ _ _ (by simpa using hj)) ?_
          have := hcell j u hu
          rw [<- Nat.add_assoc, Nat.zero_add]
          exact this
        refine ⟨g, o + i * e.n + off, (inner.drop off).take n, rfl, (hls.drop off).take n, by simp; omega, fun j u hj => ?_⟩
        rw [List.getElem?_take] at hj
        split at hj
        · rw [List.getElem?_drop] at hj
          have := hcell _ _ hj
          rwa [<- Nat.add_assoc] at this
        · cases hj
      · cases hr
    · cases hr
variable {R : Type} {call : E.Call} {k : Eff -> Option R} {r : R} {pl : Plan E}
theorem n_one {t : Nat} (ht : TyOk P E t) (ha : (E.ty t).agg = false) : (E.ty t).sh.n = 1 := by
  obtain ⟨i, z, d, _, _, _, _, _, _, _, h3⟩ := ht.info
  unfold undOk at h3
  cases d <;> simp only [] at h3 <;> (try (cases h3; done)) <;> (split at h3 <;> simp_all [Sh.n])
theorem run_loadAt {t : Nat} (ht : TyOk P E t) {g o' : Nat} {cs : List Value} (hl : cs.length = (E.ty t).sh.n) (hc : ∀ j v, cs[j]? = some v -> cellAt w g (o' + j) = some v) :
    (Instr.loadAt t (.pointer (some ⟨g, o', none⟩))).run P w = .ok (if (E.ty t).agg then .agg cs.toArray else cs.headD undef) w := by
  have hcs : ∀ j v, cs[j]? = some v -> w.cell? ((⟨g, o', none⟩ : Addr).add j) = some v := by
    intro j v hj
    rw [add_none]
    exact hc j v hj
  cases ha : (E.ty t).agg with
  | true =>
    have := run_loadCells_list (P := P) w ⟨g, o', none⟩ cs hcs
    simp only [Instr.loadAt, Instr.sureAddr, loadVar, Sem.run_bind, Sem.run_pure, Result.andThen_ok, ht.aggRun, ha, if_true, ht.size, <- hl, this]
  | false =>
    have h1 := n_one ht ha
    match cs, hl with
    | [v], _ =>
      have := hc 0 v rfl
      simp only [Nat.add_zero] at this
      simp [Instr.loadAt, Instr.sureAddr, loadVar, ht.aggRun, ha, this]
    | [], hl => simp at hl; omega
    | _ :: _ :: _, hl => simp at hl; omega
theorem snd_load (h : Rel c st G w (tmOf a)) (hd : ∀ d, o.dst = some d -> d < a.tmps.size /\ c.pin d = none) (hk : ∀ e, k e = some r -> After c a K (e.apply o.dst st))
    {x : Operand} {t : Nat} (hop : o.op = .load t x) (ht : TyOk P E t) (hp : pre E o st = some pl) (hr : runPlan E call k pl = some r) : o.wp P a w K Q := by
  simp only [pre, hop, preLoad] at hp
  split at hp
  · rename_i q hx
    split at hp
    · rename_i ls hls
      cases hp
      obtain ⟨g, o', cs, hv, h1, h2, h3⟩ := h.readP (operand_rel h hx) hls
      have hrun := run_loadAt (w := w) ht h2 h3
      refine wp_now (val := if (E.ty t).agg then .agg cs.toArray else cs.headD undef) h (by simp only [execOp, hop, hv, Sem.run_bind, hrun, Result.andThen_ok, Sem.run_pure]) ?_ hd (hk _ (runAlts_one hr).2)
      cases ha : (E.ty t).agg with
      | true => exact ⟨cs, by simp, h1⟩
      | false =>
        have hn := n_one ht ha
        match cs, h2, h1 with
        | [v], _, h1 => exact h1
        | [], h2, _ => simp at h2; omega
        | _ :: _ :: _, h2, _ => simp at h2; omega
    · cases hp
  · cases hp
theorem ptr_form (h : Rel c st G w tm) {q : Ptr} {v : Value} (hv : PtrRel c st.us st.vs G w q v) (hq : ptrOk st q = true) : ∃ b o, v = .pointer (some ⟨b, o, none⟩) /\
    ∀ n, PtrRel c st.us st.vs G w (addOff q n) (.pointer (some ⟨b, o + n, none⟩)) := by
  cases q with
  | var r off =>
    obtain ⟨l, h1, rfl⟩ := hv
    exact ⟨_, _, rfl, fun n => ⟨l, h1, by rw [Nat.add_assoc]⟩⟩
  | cells l off =>
    obtain ⟨g, o, inner, rfl, h1, h2⟩ := hv
    exact ⟨_, _, rfl, fun n => ⟨g, o, inner, by rw [Nat.add_assoc], h1, h2⟩⟩
  | ext e x off =>
    obtain ⟨g, o, inner, rfl, h1, h2, h3⟩ := hv
    exact ⟨_, _, rfl, fun n => ⟨g, o, inner, by rw [Nat.add_assoc], h1, h2, h3⟩⟩
  | elem k ep p e i off =>
    simp only [ptrOk, Option.isSome_iff_exists] at hq
    obtain ⟨xs, hc⟩ := hq
    obtain ⟨ep0, e0, xs0, g, o, cap, hk, hp, hd, hi, rfl⟩ := h.elemAt hv hc
    refine ⟨_, _, rfl, fun n => ?_⟩
    obtain ⟨en, h1, h2⟩ := hv
    refine ⟨en, h1, fun ep1 e1 xs1 he => ⟨(h2 _ _ _ he).1, fun hp' => ?_⟩⟩
    rw [hk] at h1
    cases h1
    cases he
    exact ⟨xs, g, o, _, cap, hd, hi, by simp only [Nat.add_assoc]⟩
theorem snd_nilCheck (h : Rel c st G w (tmOf a)) (hd : ∀ d, o.dst = some d -> d < a.tmps.size /\ c.pin d = none) (hk : ∀ e, k e = some r -> After c a K (e.apply o.dst st))
    {x : Operand} (hop : o.op = .nilCheck x) (hp : pre E o st = some pl) (hr : runPlan E call k pl = some r) : o.wp P a w K Q := by
  simp only [pre, hop] at hp
  split at hp
  · rename_i q hx
    split at hp
    · rename_i hq
      cases hp
      have hv : PtrRel c st.us st.vs G w q (a.eval x) := operand_rel h hx
      obtain ⟨b, o', h1, _⟩ := ptr_form h hv hq
      refine wp_now h ?_ (show VRel c st.us st.vs G w (.ptr q) (a.eval x) from hv) hd (hk _ (runAlts_one hr).2)
      rw [h1]
      simp [execOp, hop, h1]
    · cases hp
  · cases hp
theorem fieldsOk_at : ∀ {fs : List (Nat × Nat)} {off : Nat} {s : Sh} {i o t : Nat}, fieldsOk P E fs off s = true -> fs[i]? = some (o, t) -> ∃ n, 0 < n /\ (P.info? t).map (·.size) = some n
  | [], _, _, i, _, _, _, hi => by simp at hi
  | [(o', t')], off, s, i, o, t, h, hi => by
    simp only [fieldsOk, Bool.and_eq_true, beq_iff_eq, decide_eq_true_eq] at h
    cases i with
    | zero =>
      simp only [List.getElem?_cons_zero, Option.some.injEq, Prod.mk.injEq] at hi
      obtain ⟨rfl, rfl⟩ := hi
      exact ⟨_, h.2, h.1.2⟩
    | succ i => simp at hi
  | (o', t') :: q :: r, off, s, i, o, t, h, hi => by
    cases s with
    | pair a b =>
      simp only [fieldsOk, Bool.and_eq_true, beq_iff_eq, decide_eq_true_eq] at h
      cases i with
      | zero =>
        simp only [List.getElem?_cons_zero, Option.some.injEq, Prod.mk.injEq] at hi
        obtain ⟨rfl, rfl⟩ := hi
        exact ⟨_, h.1.2, h.1.1.2⟩
      | succ i => exact fieldsOk_at h.2 (by simpa using hi)
    | _ => simp [fieldsOk] at h
theorem snd_fieldAddr (h : Rel c st G w (tmOf a)) (hd : ∀ d, o.dst = some d -> d < a.tmps.size /\ c.pin d = none) (hk : ∀ e, k e = some r -> After c a K (e.apply o.dst st))
    {x : Operand} {t i : Nat} (hop : o.op = .fieldAddr t x i) (ht : TyOk P E t) (hp : pre E o st = some pl) (hr : runPlan E call k pl = some r) : o.wp P a w K Q := by
  simp only [pre, hop] at hp
  split at hp
  · rename_i q off hx ho
    split at hp
    · rename_i hq
      cases hp
      have hv : PtrRel c st.us st.vs G w q (a.eval x) := operand_rel h hx
      obtain ⟨b, o', h1, h2⟩ := ptr_form h hv hq
      unfold fieldOff at ho
      split at ho
      · rename_i fs hfs
        split at ho
        · rename_i off' t' hi
          cases ho
          obtain ⟨fields, f1, f2, f3, _⟩ := ht.struct hfs
          obtain ⟨n, hn, hsz⟩ := fieldsOk_at f3 hi
          have hfi : ∃ f, fields[i]? = some f /\ f.offset = off /\ f.type = t' := by
            rw [<- f2, List.getElem?_map] at hi
            simp only [Array.getElem?_toList] at hi
            cases hf : fields[i]? with
            | none => simp [hf] at hi
            | some f => simp [hf] at hi; exact ⟨f, rfl, hi.1, hi.2⟩
          obtain ⟨f, hf, hoff, htt⟩ := hfi
          obtain ⟨inf, hinf, hsize⟩ : ∃ inf, P.info? t' = some inf /\ inf.size = n := by
            cases hh : P.info? t' with
            | none => simp [hh] at hsz
            | some inf => simp [hh] at hsz; exact ⟨inf, rfl, hsz⟩
          refine wp_now h ?_ (show VRel c st.us st.vs G w (.ptr (addOff q off)) _ from h2 off) hd (hk _ (runAlts_one hr).2)
          have hne : ¬ (inf.size = 0) := by omega
          simp [execOp, hop, h1, Instr.fieldAt, run_underlying f1, hf, Instr.sureAddr, fieldPlace, htt, sizeOf, typeInfo, hinf, hne, hoff, add_none]
        · cases ho
      · cases ho
    · cases hp
  · cases hp
end
end Go.Proofs.YtaflceohlijekaaGreat.Ev
namespace Go.Proofs.YtaflceohlijekaaGreat.Ev
def eqFieldsOk (P : Program) : List Field -> Nat -> Bool
  | [], _ => true
  | f :: fs, i => f.name != "_" && (match P.underlying f.type with | some (.int _) => true | _ => false) && f.offset == i && eqFieldsOk P fs (i + 1)
def eqCheck (P : Program) (E : Env) (t : Nat) : Bool :=
  match P.underlying t with
  | some (.struct fs) => eqFieldsOk P fs.toList 0 && fs.size == (E.ty t).sh.n && !P.stoodInHeld t && !P.eqGuardType P.depth t
  | _ => false
section
variable {P : Program} {E : Env} {c : Cx} {st : St} {G G' : Gh} {w w' : World} {a : Act} {o : Oper} {K : Act -> World -> Prop} {Q : Exit -> Act -> World -> Prop} {tm : Nat -> Value}
variable {R : Type} {call : E.Call} {k : Eff -> Option R} {r : R} {pl : Plan E}
theorem run_part_int {t : Nat} {kk : IntKind} (ht : P.underlying t = some (.int kk)) {xs : Array Value} {i : Nat} {v : Value} (h : xs[i]? = some v) : (part t xs i).run P w = .ok v w := by
  simp [part, isAgg, run_underlying ht, h]
theorem eqFields_run (d : Nat) {us : List (Nat × UE)} {vx vy : Array Value} : ∀ (fs : List Field) (i : Nat) (xs ys : List Lf) (b : Bool), eqFieldsOk P fs i = true -> LsRel c us G w xs (vx.toList.drop i) -> LsRel c us G w ys (vy.toList.drop i) ->
    eqCells xs ys = some b -> xs.length = fs.length -> (Op.eqFields (d + 1) vx vy fs).run P w = .ok b w
  | [], i, xs, ys, b, hf, hx, hy, he, hl => by
    have : xs = [] := by cases xs with | nil => rfl | cons => simp at hl
    subst this
    cases ys with
    | nil => simp only [eqCells, Option.some.injEq] at he; subst he; rfl
    | cons => simp [eqCells] at he
  | f :: fs, i, xs, ys, b, hf, hx, hy, he, hl => by
    cases xs with
    | nil => simp at hl
    | cons x xs =>
      cases ys with
      | nil => cases x <;> simp [eqCells] at he
      | cons y ys =>
        cases x <;> (try (simp [eqCells] at he; done))
        rename_i k x
        cases y <;> (try (simp [eqCells] at he; done))
        rename_i k' y
        simp only [eqCells] at he
        split at he
        · rename_i hkk
          subst hkk
          split at he
          · rename_i b' hb'
            simp only [Option.some.injEq] at he
            subst he
            simp only [eqFieldsOk, Bool.and_eq_true, bne_iff_ne, ne_eq, beq_iff_eq] at hf
            obtain ⟨⟨⟨f1, f2⟩, f3⟩, f4⟩ := hf
            cases hvx : vx.toList.drop i with
            | nil => rw [hvx] at hx; exact hx.elim
            | cons v vs =>
              cases hvy : vy.toList.drop i with
              | nil => rw [hvy] at hy; exact hy.elim
              | cons u us' =>
                rw [hvx] at hx
                rw [hvy] at hy
                have hv : v = .int k x := hx.1.1
                have hu : u = .int k y := hy.1.1
                have gx : vx[i]? = some (.int k x) := by
                  have := congrArg (fun l => l[0]?) hvx
                  simpa [List.getElem?_drop, hv] using this
                have gy : vy[i]? = some (.int k y) := by
                  have := congrArg (fun l => l[0]?) hvy
                  simpa [List.getElem?_drop, hu] using this
                have tx : vx.toList.drop (i + 1) = vs := by rw [<- List.drop_drop, hvx]; rfl
                have ty : vy.toList.drop (i + 1) = us' := by rw [<- List.drop_drop, hvy]; rfl
                obtain ⟨kk, hk⟩ : ∃ kk, P.underlying f.type = some (.int kk) := by
                  split at f2
                  · rename_i kk h; exact ⟨kk, h⟩
                  · cases f2
                have ih := eqFields_run d fs (i + 1) xs ys b' f4 (by rw [tx]; exact hx.2) (by rw [ty]; exact hy.2) hb' (by simpa using hl)
                simp only [Op.eqFields, ne_eq, f1, not_false_eq_true, if_true, Sem.run_bind, f3, run_part_int hk gx, run_part_int hk gy, Result.andThen_ok, run_equalIn_int w d f.type k kk x y hk]
                cases hxy : (x == y)
                · simp
                · simpa using ih
          · cases he
        · cases he
theorem run_binop {us vs} {op : BinOp} {x y : AV} {u v : Value} {b : Bool} {l : Lf} {t : Nat} (ht : TyOk P E t) (hx : VRel c us vs G w x u) (hy : VRel c us vs G w y v) (hb : b = true) (h : binop op (E.ty t) x y = some (b, l))
    (hq : (E.ty t).agg = true -> eqCheck P E t = true) (ox oy : Operand) :
    (eqGuard op t ox oy u v).run P w = .ok () w /\ (binOp op t u v).run P w = .ok (valOf l) w /\ isScalar l = true := by
  unfold binop at h
  split at h
  · have h1 := v_int (st := ⟨[], vs, us⟩) hx
    have h2 := v_int (st := ⟨[], vs, us⟩) hy
    subst h1
    subst h2
    refine ⟨run_eqGuard_plain (by simp), ?_⟩
    split at h
    · exact run_shiftOp hb h t
    · exact run_shiftOp hb h t
    · split at h
      · rename_i hk
        subst hk
        exact run_intOp hb h t
      · cases h
  · have h1 := v_bool (st := ⟨[], vs, us⟩) hx
    have h2 := v_bool (st := ⟨[], vs, us⟩) hy
    subst h1
    subst h2
    refine ⟨run_eqGuard_plain (by simp), ?_⟩
    split at h
    · rename_i hs ha
      simp only [Option.some.injEq, Prod.mk.injEq] at h
      obtain ⟨_, rfl⟩ := h
      exact ⟨run_eql_bool w t _ _ (ht.bool hs ha), rfl⟩
    · rename_i hs ha
      simp only [Option.some.injEq, Prod.mk.injEq] at h
      obtain ⟨_, rfl⟩ := h
      exact ⟨run_neq_bool w t _ _ (ht.bool hs ha), rfl⟩
    · cases h
  · have h1 := v_str (st := ⟨[], vs, us⟩) hx
    have h2 := v_str (st := ⟨[], vs, us⟩) hy
    subst h1
    subst h2
    exact ⟨run_eqGuard_plain (by simp), run_strOp hb h t⟩
  · rename_i xs ys
    cases hne : (Nat.beq xs.length (E.ty t).sh.n && (E.ty t).agg) with
    | false => rw [hne] at h; cases h
    | true =>
    rw [hne] at h
    simp only [Bool.and_eq_true] at hne
    have hc := hq hne.2
    unfold eqCheck at hc
    split at hc
    · rename_i fs hu
      simp only [Bool.and_eq_true, beq_iff_eq, Bool.not_eq_true'] at hc
      obtain ⟨⟨⟨c1, c2⟩, c3⟩, c4⟩ := hc
      · have hlen := beq_of hne.1
        obtain ⟨vx, rfl, hx⟩ := hx
        obtain ⟨vy, rfl, hy⟩ := hy
        have hF : P.fieldsOf t = fs := by simp [Program.fieldsOf, hu]
        have key : ∀ b', eqCells xs ys = some b' -> (Op.equalIn 10000 t (.agg vx.toArray) (.agg vy.toArray)).run P w = .ok b' w := by
          intro b' hb'
          rw [run_equalIn_struct w 9999 t _ _ (by rw [hF]; exact hu) c3, hF]
          exact eqFields_run 9998 fs.toList 0 xs ys b' c1 (by simpa using hx) (by simpa using hy) hb' (by rw [hlen]; simp [c2])
        refine ⟨run_eqGuard_agg w op t ox oy _ _ c4, ?_⟩
        simp only [cond_true] at h
        split at h
        · rename_i b' he
          simp only [Option.some.injEq, Prod.mk.injEq] at h
          obtain ⟨_, rfl⟩ := h
          rw [run_eql_struct, key _ he]
          exact ⟨rfl, rfl⟩
        · rename_i b' he
          simp only [Option.some.injEq, Prod.mk.injEq] at h
          obtain ⟨_, rfl⟩ := h
          rw [run_neq_struct, key _ he]
          exact ⟨rfl, rfl⟩
        · cases h
    · cases hc
  · cases h
theorem snd_binOp (h : Rel c st G w (tmOf a)) (hd : ∀ d, o.dst = some d -> d < a.tmps.size /\ c.pin d = none) (hk : ∀ e, k e = some r -> After c a K (e.apply o.dst st))
    {op : BinOp} {t t' : Nat} {x y : Operand} (hop : o.op = .binOp op t x y t') (ht : TyOk P E t) (hq : (E.ty t).agg = true -> eqCheck P E t = true)
    (hp : pre E o st = some pl) (hr : runPlan E call k pl = some r) : o.wp P a w K Q := by
  simp only [pre, hop] at hp
  split at hp
  · rename_i u1 v hu hv
    split at hp
    · rename_i b l hb
      cases hp
      obtain ⟨hc, hke⟩ := runAlts_one hr
      obtain ⟨r1, r2, r3⟩ := run_binop (P := P) ht (operand_rel h hu) (operand_rel h hv) hc hb hq x y
      exact wp_now (val := valOf l) h (by simp [execOp, hop, r1, r2]) (valOf_rel r3) hd (hk _ hke)
    · cases hp
  · cases hp
theorem arr_of {α : Type} {x : Array α} {l : List α} (h : x.toList = l) : x = l.toArray := by subst h; simp
theorem snd_len (h : Rel c st G w (tmOf a)) (hd : ∀ d, o.dst = some d -> d < a.tmps.size /\ c.pin d = none) (hk : ∀ e, k e = some r -> After c a K (e.apply o.dst st))
    {cl : Call} (hop : o.op = .call cl) (hcl : cl.callee = .builtin .len) (ht : ∀ t ∈ cl.argTypes.toList, TyOk P E t)
    (hp : pre E o st = some pl) (hr : runPlan E call k pl = some r) : o.wp P a w K Q := by
  simp only [pre, hop, hcl] at hp
  split at hp
  · rename_i x t hx hts
    have hx' := arr_of hx
    have hts' := arr_of hts
    have ht := ht t (by rw [hts]; simp)
    split at hp
    · rename_i v hv
      split at hp
      · rename_i n hn
        cases hp
        have hv := operand_rel h hv
        have key : (Builtin.len_ cl.argTypes o.type #[a.eval x]).run P w = .ok (.int .i64 n) w := by
          unfold lenOf at hn
          split at hn
          · rename_i s
            cases hs : (E.ty t).isStr with
            | false => rw [hs] at hn; cases hn
            | true =>
              rw [hs] at hn
              cases hn
              have := v_str hv
              simp [Builtin.len_, hts', this, run_underlying (ht.isStr hs), goInt]
          · rename_i e xs _
            cases hs : (E.ty t).isSlice with
            | false => rw [hs] at hn; cases hn
            | true =>
              rw [hs] at hn
              cases hn
              obtain ⟨e1, he1, _⟩ := ht.isSlice hs
              have hv' : RdL c.w0 c.ok [.ext e xs] [a.eval x] := hv.1.1
              generalize a.eval x = v at hv'
              cases hv' with
              | sl0 _ => simp [Builtin.len_, hts', run_underlying he1, goInt]
              | sl h1 => simp [Builtin.len_, hts', run_underlying he1, goInt, h1.1]
          · rename_i k' ep p e
            cases hs : (E.ty t).isSlice with
            | false => rw [hs] at hn; cases hn
            | true =>
              rw [hs] at hn
              simp only [cond_true] at hn
              split at hn
              · rename_i xs hxs
                cases hn
                obtain ⟨e1, he1, _⟩ := ht.isSlice hs
                obtain ⟨ep0, e0, xs0, g1, g2, g3⟩ := content_own hxs
                obtain ⟨en, q1, q2⟩ := hv.1.1
                rw [g1] at q1
                cases q1
                obtain ⟨ys, hd'⟩ := (q2 _ _ _ rfl).2 g2
                have := hd'.descend
                rw [g3] at this
                cases this
                obtain ⟨Fl, Fr, h3, _⟩ := hd'.own (h.unit _ _ _ _ g1)
                obtain ⟨A, cap', h4⟩ := h3.slice_form
                simp [Builtin.len_, hts', run_underlying he1, goInt, h4]
              · cases hn
          · rename_i k' ep p e lo len
            cases hs : (E.ty t).isSlice with
            | false => rw [hs] at hn; cases hn
            | true =>
              rw [hs] at hn
              simp only [cond_true] at hn
              split at hn
              · rename_i xs hxs
                cases hn
                obtain ⟨e1, he1, _⟩ := ht.isSlice hs
                obtain ⟨ep0, e0, xs0, g1, g2, g3⟩ := content_own hxs
                obtain ⟨en, q1, q2⟩ := hv.1.1
                rw [g1] at q1
                cases q1
                obtain ⟨ys, v0, _, A, n', cap, A', cap', _, h4, _⟩ := (q2 _ _ _ rfl).2 g2
                simp [Builtin.len_, hts', run_underlying he1, goInt, h4]
              · cases hn
          · cases hs : (E.ty t).isSlice with
            | false => rw [hs] at hn; cases hn
            | true =>
              rw [hs] at hn
              cases hn
              obtain ⟨e1, he1, _⟩ := ht.isSlice hs
              have hv' : a.eval x = .slice none 0 0 := hv.1.1
              simp [Builtin.len_, hts', run_underlying he1, goInt, hv']
          · cases hn
        exact wp_now h (by simp [execOp, hop, resolve, hcl, invoke, builtin, hx', key]) (mk_int _ _) hd (hk _ (runAlts_one hr).2)
      · cases hp
    · cases hp
  · cases hp
theorem snd_minmax (h : Rel c st G w (tmOf a)) (hd : ∀ d, o.dst = some d -> d < a.tmps.size /\ c.pin d = none) (hk : ∀ e, k e = some r -> After c a K (e.apply o.dst st))
    {cl : Call} (hop : o.op = .call cl) (hcl : cl.callee = .builtin .min \/ cl.callee = .builtin .max)
    (hp : pre E o st = some pl) (hr : runPlan E call k pl = some r) : o.wp P a w K Q := by
  have key : ∃ mx, preMinMax E st mx cl.args.toList = some pl /\ cl.callee = .builtin (bif mx then .max else .min) := by
    rcases hcl with hcl | hcl <;> simp only [pre, hop, hcl] at hp
    · exact ⟨false, hp, hcl⟩
    · exact ⟨true, hp, hcl⟩
  obtain ⟨mx, hp, hcl⟩ := key
  unfold preMinMax at hp
  split at hp
  · rename_i x y hxy
    have hxy' := arr_of hxy
    split at hp
    · rename_i kk u kk' v hu hv
      split at hp
      · rename_i hkk
        subst hkk
        cases hp
        have h1 := v_int (operand_rel h hu)
        have h2 := v_int (operand_rel h hv)
        refine wp_now h ?_ (mk_int _ _) hd (hk _ (runAlts_one hr).2)
        cases mx
        · simp [execOp, hop, resolve, hcl, invoke, builtin, hxy', h1, h2, Builtin.min_, Builtin.min2]
        · simp [execOp, hop, resolve, hcl, invoke, builtin, hxy', h1, h2, Builtin.max_, Builtin.max2]
      · cases hp
    · cases hp
  · cases hp
end
end Go.Proofs.YtaflceohlijekaaGreat.Ev
namespace Go.Proofs.YtaflceohlijekaaGreat.Ev
section
variable {P : Program} {E : Env} {c : Cx} {st : St} {G G' : Gh} {w w' : World} {a : Act} {o : Oper} {K : Act -> World -> Prop} {Q : Exit -> Act -> World -> Prop} {tm : Nat -> Value}
variable {R : Type} {call : E.Call} {k : Eff -> Option R} {r : R} {pl : Plan E}
theorem Rel.ownAt (h : Rel c st G w tm) {k ep : Nat} {p : Path} {e : Sh} {v : Value} (hv : LfRel c st.us G w (.own k ep p e) v) {xs : List e.T} (hc : content st.us k ep p e = some xs) :
    ∃ ep0 e0 xs0 Fl, getA st.us k = some (.own ep0 e0 xs0) /\ (p = [] \/ ep = ep0) /\ (p ≠ [] -> ep <= ep0) /\ Hd w e0 xs0 (G.uv k) p e xs v /\ OwnL w [.ext e xs] [v] Fl := by
  obtain ⟨ep0, e0, xs0, g1, g2, g3⟩ := content_own hc
  obtain ⟨en, q1, q2⟩ := hv
  rw [g1] at q1
  cases q1
  obtain ⟨ys, hd'⟩ := (q2 _ _ _ rfl).2 g2
  have := hd'.descend
  rw [g3] at this
  cases this
  obtain ⟨Fl, Fr, h3, _⟩ := hd'.own (h.unit _ _ _ _ g1)
  exact ⟨ep0, e0, xs0, Fl, g1, g2, (q2 _ _ _ rfl).1, hd', h3⟩
theorem Rel.subAt (h : Rel c st G w tm) {k ep : Nat} {p : Path} {e : Sh} {lo len : Nat} {v : Value} (hv : LfRel c st.us G w (.sub k ep p e lo len) v) {xs : List e.T} (hc : content st.us k ep p e = some xs) :
    ∃ ep0 e0 xs0 v0 Fl, getA st.us k = some (.own ep0 e0 xs0) /\ (p = [] \/ ep = ep0) /\ (p ≠ [] -> ep <= ep0) /\ Hd w e0 xs0 (G.uv k) p e xs v0 /\ OwnL w [.ext e xs] [v0] Fl /\ SubH v0 lo len e.n v := by
  obtain ⟨ep0, e0, xs0, g1, g2, g3⟩ := content_own hc
  obtain ⟨en, q1, q2⟩ := hv
  rw [g1] at q1
  cases q1
  obtain ⟨ys, v0, hd', hs⟩ := (q2 _ _ _ rfl).2 g2
  have := hd'.descend
  rw [g3] at this
  cases this
  obtain ⟨Fl, Fr, h3, _⟩ := hd'.own (h.unit _ _ _ _ g1)
  exact ⟨ep0, e0, xs0, v0, Fl, g1, g2, (q2 _ _ _ rfl).1, hd', h3, hs⟩
theorem run_indexAt {t te : Nat} (ht : P.underlying t = some (.slice te)) (hte : TyOk P E te) {g o' n cap : Nat} {kk : IntKind} {j : Int} (h0 : 0 <= j) (h1 : j < n) :
    (Instr.indexAt t (.slice (some ⟨g, o', none⟩) n cap) (.int kk j)).run P w = .ok (.pointer (some ⟨g, o' + j.toNat * (E.ty te).sh.n, none⟩)) w := by
  simp [Instr.indexAt, asIntOf, run_underlying ht, h0, h1, hte.size, add_none]
theorem SubH.open {v0 : Value} {lo len sz : Nat} {v : Value} (h : SubH v0 lo len sz v) (hl : 0 < len) : ∃ g o n cap cap', v0 = .slice (some ⟨g, o, none⟩) n cap /\ v = .slice (some ⟨g, o + lo * sz, none⟩) len cap' /\ lo + len <= n := by
  obtain ⟨A, n, cap, A', cap', h1, h2, h3, h4, h5⟩ := h
  rcases h5 with ⟨h5, _⟩ | ⟨g, o, rfl, rfl, h6⟩
  · omega
  · exact ⟨g, o, n, cap, cap', h1, h2, h3⟩
theorem arrAlts_run {p : Ptr} {j : Int} {sz : Nat} : ∀ (n i : Nat), runAlts k (arrAlts p j sz n i) = some r -> ∃ i', i <= i' /\ i' < i + n /\ j = (i' : Int) /\ k ⟨.ptr (addOff p (i' * sz)), [], []⟩ = some r
  | 0, i, h => by cases h
  | n + 1, i, h => by
    simp only [arrAlts, runAlts] at h
    cases hj : decide (j = (i : Int)) with
    | true =>
      rw [hj] at h
      exact ⟨i, Nat.le_refl _, by omega, of_decide_eq_true hj, h⟩
    | false =>
      rw [hj] at h
      obtain ⟨i', h1, h2, h3⟩ := arrAlts_run n (i + 1) h
      exact ⟨i', by omega, by omega, h3⟩
theorem snd_indexAddr (h : Rel c st G w (tmOf a)) (hd : ∀ d, o.dst = some d -> d < a.tmps.size /\ c.pin d = none) (hk : ∀ e, k e = some r -> After c a K (e.apply o.dst st))
    {x i : Operand} {t : Nat} (hop : o.op = .indexAddr t x i) (ht : TyOk P E t) (hte : ∀ e, (E.ty t).d = .slice e \/ (∃ n, (E.ty t).d = .array n e) -> TyOk P E e)
    (hp : pre E o st = some pl) (hr : runPlan E call k pl = some r) : o.wp P a w K Q := by
  simp only [pre, hop, preIndexAddr] at hp
  split at hp
  · rename_i te e xs kk j hte' hx hi
    obtain ⟨u1, u2, u3⟩ := ht.slice hte'
    have hi := v_int (operand_rel h hi)
    have hv : RdL c.w0 c.ok [.ext e xs] [a.eval x] := (operand_rel h hx).1.1
    have hte := hte te (.inl hte')
    split at hp
    · rename_i hn
      cases hp
      obtain ⟨hc, hke⟩ := runAlts_one hr
      simp only [Bool.and_eq_true, decide_eq_true_eq] at hc
      have hlt : j.toNat < xs.length := by omega
      generalize hv0 : a.eval x = v at hv
      cases hv with
      | sl0 _ => simp at hlt
      | sl h1 h2 h3 h4 h5 =>
        rename_i b o' n cap inner
        have hjn : j < (n : Int) := by have := h1.1; omega
        obtain ⟨in2, q1, q2, q3⟩ := (RdL.sl (cap := cap) h1 h2 h3 h4 .nil).elem j.toNat hlt
        refine wp_now h (val := .pointer (some ⟨b, o' + j.toNat * (E.ty te).sh.n, none⟩)) (by simp only [execOp, hop, hi, hv0, Sem.run_bind, run_indexAt u1 hte hc.1 hjn, Result.andThen_ok, Sem.run_pure]) ?_ hd (hk _ hke)
        refine ⟨b, o' + j.toNat * e.n, in2, by rw [hn]; rfl, q1, q2, ?_⟩
        rw [getD_at _ _ _ hlt]
        exact q3
    · cases hp
  · rename_i te k' ep p e kk j hte' hx hi
    obtain ⟨u1, u2, u3⟩ := ht.slice hte'
    have hi := v_int (operand_rel h hi)
    have hv := operand_rel h hx
    have hte := hte te (.inl hte')
    split at hp
    · rename_i hn
      split at hp
      · rename_i xs hxs
        cases hp
        obtain ⟨hc, hke⟩ := runAlts_one hr
        simp only [Bool.and_eq_true, decide_eq_true_eq] at hc
        have hlt : j.toNat < xs.length := by omega
        obtain ⟨ep0, e0, xs0, Fl, g1, g2, g3, g4, g5⟩ := h.ownAt hv.1.1 hxs
        obtain ⟨g, o', cap, _, _, _, _, g6, _⟩ := g5.open_sl (by omega)
        refine wp_now h (val := .pointer (some ⟨g, o' + j.toNat * (E.ty te).sh.n, none⟩)) (by simp only [execOp, hop, hi, g6, Sem.run_bind, run_indexAt u1 hte hc.1 hc.2, Result.andThen_ok, Sem.run_pure]) ?_ hd (hk _ hke)
        refine ⟨_, g1, fun ep1 e1 xs1 he => ?_⟩
        cases he
        exact ⟨g3, fun _ => ⟨xs, g, o', _, cap, g6 ▸ g4, hlt, by rw [hn]; rfl⟩⟩
      · cases hp
    · cases hp
  · rename_i te k' ep p e lo len kk j hte' hx hi
    obtain ⟨u1, u2, u3⟩ := ht.slice hte'
    have hi := v_int (operand_rel h hi)
    have hv := operand_rel h hx
    have hte := hte te (.inl hte')
    split at hp
    · rename_i hn
      split at hp
      · rename_i xs hxs
        cases hp
        obtain ⟨hc, hke⟩ := runAlts_one hr
        simp only [Bool.and_eq_true, decide_eq_true_eq] at hc
        obtain ⟨ep0, e0, xs0, v0, Fl, g1, g2, g3, g4, g5, g6⟩ := h.subAt hv.1.1 hxs
        obtain ⟨g, o', n, cap, cap', q1, q2, q3⟩ := g6.open (by omega)
        refine wp_now h (val := .pointer (some ⟨g, o' + lo * e.n + j.toNat * (E.ty te).sh.n, none⟩)) (by simp only [execOp, hop, hi, q2, Sem.run_bind, run_indexAt u1 hte hc.1 hc.2, Result.andThen_ok, Sem.run_pure]) ?_ hd (hk _ hke)
        refine ⟨_, g1, fun ep1 e1 xs1 he => ?_⟩
        cases he
        exact ⟨g3, fun _ => ⟨xs, g, o', n, cap, q1 ▸ g4, by omega, by rw [<- hn, Nat.add_mul]; simp only [Nat.add_assoc, Nat.add_zero]⟩⟩
      · cases hp
    · cases hp
  · rename_i n e r' o' kk j hta hx hi
    have hi := v_int (operand_rel h hi)
    split at hp
    · rename_i hn
      cases hp
      obtain ⟨i', _, h2, rfl, hke⟩ := arrAlts_run n 0 hr
      obtain ⟨u1, u2, u3⟩ := ht.array hta
      have hte := hte e (.inr ⟨n, hta⟩)
      obtain ⟨ls, q1, q2⟩ := operand_rel h hx
      have h2' : (i' : Int) < n := by omega
      refine wp_now h (val := .pointer (some ⟨(G.va r').1, (G.va r').2 + o' + i' * (E.ty e).sh.n, none⟩)) ?_ (show VRel c st.us st.vs G w (.ptr (addOff (.var r' o') (i' * (E.ty e).sh.n))) _ from ⟨ls, q1, by simp only [Nat.add_assoc]⟩) hd (hk _ hke)
      simp [execOp, hop, hi, q2, Instr.indexAt, asIntOf, run_underlying u1, Instr.sureAddr, h2', (show i' < n by omega), hte.size, add_none]
    · cases hp
  · cases hp
theorem run_cutB {st : St} {n : Nat} {lo hi : Option Operand} {l u : Int} (h : Rel c st G w (tmOf a)) (hc : cutB st n lo hi = some (l, u)) (h0 : 0 <= l) (h1 : l <= u) (h2 : u <= (n : Int)) {isS : Bool} {cap : Nat} (hcap : n <= cap) :
    (Instr.sliceBounds isS n cap (lo.map a.eval) (hi.map a.eval) none).run P w = .ok (l.toNat, u.toNat, cap) w := by
  unfold cutB at hc
  split at hc
  · rename_i l' u' hl hu
    cases hc
    have bnd : ∀ (kk : IntKind) (y : Nat) (z : Int) (code : BoundsCode), 0 <= z -> z <= y -> (Instr.sliceBound (.int kk z) y code).run P w = .ok z.toNat w := by
      intro kk y z code a1 a2
      simp [Instr.sliceBound, asIntOf, a1, a2]
    have hhi : (hi = none /\ u = n) \/ ∃ y kk, hi = some y /\ a.eval y = .int kk u := by
      cases hi with
      | none => simp only [Option.some.injEq] at hu; exact .inl ⟨rfl, hu.symm⟩
      | some y =>
        simp only at hu
        split at hu
        · rename_i kk j hj
          cases hu
          exact .inr ⟨y, kk, rfl, v_int (operand_rel h hj)⟩
        · cases hu
    have hlo : (lo = none /\ l = 0) \/ ∃ y kk, lo = some y /\ a.eval y = .int kk l := by
      cases lo with
      | none => simp only [Option.some.injEq] at hl; exact .inl ⟨rfl, hl.symm⟩
      | some y =>
        simp only at hl
        split at hl
        · rename_i kk j hj
          cases hl
          exact .inr ⟨y, kk, rfl, v_int (operand_rel h hj)⟩
        · cases hl
    have b1 : ∀ kk code, (Instr.sliceBound (.int kk u) cap code).run P w = .ok u.toNat w := fun kk code => bnd _ _ _ _ (by omega) (by omega)
    have b2 : ∀ kk code, (Instr.sliceBound (.int kk l) u.toNat code).run P w = .ok l.toNat w := fun kk code => bnd _ _ _ _ (by omega) (by omega)
    rcases hhi with ⟨rfl, rfl⟩ | ⟨y, kk, rfl, hy⟩
    · simp only [Int.toNat_natCast] at b2
      rcases hlo with ⟨rfl, rfl⟩ | ⟨z, kk2, rfl, hz⟩
      · simp [Instr.sliceBounds]
      · simp [Instr.sliceBounds, hz, b2]
    · rcases hlo with ⟨rfl, rfl⟩ | ⟨z, kk2, rfl, hz⟩
      · simp [Instr.sliceBounds, hy, b1]
      · simp [Instr.sliceBounds, hy, hz, b1, b2]
  · cases hc
theorem run_sliceAt {t te : Nat} {lo hi : Option Value} {A : Option Addr} {n cap l u : Nat} (ht : P.underlying t = some (.slice te)) (hte : TyOk P E te)
    (hb : (Instr.sliceBounds true n cap lo hi none).run P w = .ok (l, u, cap) w) :
    (Instr.sliceAt t (.slice A n cap) lo hi none).run P w = .ok (.slice (if cap = l then A else A.map (·.add (l * (E.ty te).sh.n))) (u - l) (cap - l)) w := by
  simp [Instr.sliceAt, Instr.slice, run_underlying ht, hb, hte.size]
theorem OwnL.form2 {w e xs v F} (h : OwnL w [.ext e xs] [v] F) : (xs = [] /\ v = .slice none 0 0) \/ ∃ g o cap, v = .slice (some ⟨g, o, none⟩) xs.length cap /\ xs.length <= cap := by
  cases h with
  | nl h => exact .inl ⟨rfl, rfl⟩
  | sl h1 h2 => subst h1; exact .inr ⟨_, _, _, rfl, h2⟩
theorem SubH.of_form {g o n cap l u sz : Nat} (h1 : l <= u) (h2 : u <= n) (h3 : n <= cap) :
    SubH (.slice (some ⟨g, o, none⟩) n cap) l (u - l) sz (.slice (if cap = l then some ⟨g, o, none⟩ else (some ⟨g, o, none⟩ : Option Addr).map (·.add (l * sz))) (u - l) (cap - l)) := by
  refine ⟨_, _, _, _, _, rfl, rfl, by omega, by omega, ?_⟩
  by_cases hc : cap = l
  · exact .inl ⟨by omega, by omega, .inr ⟨g, o, o, rfl, by simp [hc], by omega⟩⟩
  · exact .inr ⟨g, o, rfl, by simp [hc, add_none], by omega⟩
theorem SubH.cut {v0 : Value} {lo len sz l u : Nat} {A : Option Addr} {cap' : Nat} (h : SubH v0 lo len sz (.slice A len cap')) (h1 : l <= u) (h2 : u <= len) :
    SubH v0 (lo + l) (u - l) sz (.slice (if cap' = l then A else A.map (·.add (l * sz))) (u - l) (cap' - l)) := by
  obtain ⟨A0, n, cap, A', cap2, e1, e2, e3, e4, e5⟩ := h
  cases e2
  refine ⟨A0, n, cap, _, _, e1, rfl, by omega, by omega, ?_⟩
  by_cases hc : cap' = l
  · rcases e5 with ⟨_, _, e5⟩ | ⟨g, o, rfl, rfl, e6⟩
    · exact .inl ⟨by omega, by omega, by simpa [hc] using e5⟩
    · refine .inl ⟨by omega, by omega, .inr ⟨g, o, o + lo * sz, rfl, by simp [hc], ?_⟩⟩
      exact Nat.add_le_add_left (Nat.mul_le_mul_right _ (by omega)) _
  · rcases e5 with ⟨_, e5, _⟩ | ⟨g, o, rfl, rfl, e6⟩
    · omega
    · exact .inr ⟨g, o, rfl, by simp only [hc, if_false, Option.map_some, add_none, Nat.add_mul, Nat.add_assoc], by omega⟩
theorem flatMap_drop (e : Sh) : ∀ (xs : List e.T) (l : Nat), (xs.drop l).flatMap (flat e) = (xs.flatMap (flat e)).drop (l * e.n)
  | xs, 0 => by simp
  | [], l + 1 => by simp
  | x :: xs, l + 1 => by
    rw [List.drop_succ_cons, flatMap_drop e xs l, List.flatMap_cons, Nat.add_mul, Nat.one_mul, Nat.add_comm, <- List.drop_drop, List.drop_left' (flat_length e x)]
theorem flatMap_take (e : Sh) : ∀ (xs : List e.T) (l : Nat), (xs.take l).flatMap (flat e) = (xs.flatMap (flat e)).take (l * e.n)
  | xs, 0 => by simp
  | [], l + 1 => by simp
  | x :: xs, l + 1 => by
    have : (flat e x).take (e.n + l * e.n) = flat e x := List.take_of_length_le (by rw [flat_length]; omega)
    rw [List.take_succ_cons, List.flatMap_cons, List.flatMap_cons, flatMap_take e xs l, Nat.add_mul, Nat.one_mul, Nat.add_comm, List.take_append, flat_length, Nat.add_sub_cancel_left, this]
theorem RdL.cut {w : World} {Ok : Nat -> Nat -> Prop} {e : Sh} {xs : List e.T} {v : Value} (h : RdL w Ok [.ext e xs] [v]) {l u : Nat} (h1 : l <= u) (h2 : u <= xs.length) :
    ∃ A cap, v = .slice A xs.length cap /\ xs.length <= cap /\ RdL w Ok [.ext e ((xs.drop l).take (u - l))] [.slice (if cap = l then A else A.map (·.add (l * e.n))) (u - l) (cap - l)] := by
  cases h with
  | sl0 _ =>
    simp only [List.length_nil] at h2
    refine ⟨_, _, rfl, by simp, ?_⟩
    have : u - l = 0 := by omega
    rw [this]
    simp only [List.drop_nil, List.take_nil]
    exact .sl0 .nil
  | sl g1 g2 g3 g4 g5 =>
    rename_i b o n cap inner
    obtain ⟨rfl, hcap⟩ := g1
    refine ⟨_, _, rfl, hcap, ?_⟩
    by_cases hul : u - l = 0
    · rw [hul]
      simp only [List.take_zero]
      exact .sl0 .nil
    · have hc : ¬ cap = l := by omega
      simp only [hc, if_false, Option.map_some, add_none]
      have hfl : ((xs.drop l).take (u - l)).flatMap (flat e) = ((xs.flatMap (flat e)).drop (l * e.n)).take ((u - l) * e.n) := by
        rw [flatMap_take, flatMap_drop]
      refine .sl (inner := (inner.drop (l * e.n)).take ((u - l) * e.n)) ⟨by simp; omega, by omega⟩ ?_ (fun j v hj => ?_) ?_ .nil
      · have : (u - l) * e.n <= (xs.length - l) * e.n := Nat.mul_le_mul_right _ (by omega)
        rw [Nat.sub_mul] at this ⊢
        simp only [List.length_take, List.length_drop, g2]
        have h3 : u * e.n <= xs.length * e.n := Nat.mul_le_mul_right _ h2
        omega
      · rw [List.getElem?_take] at hj
        split at hj
        · rw [List.getElem?_drop] at hj
          have := g3 _ _ hj
          rw [Nat.add_assoc]
          exact this
        · cases hj
      · rw [hfl]
        exact (g4.drop _).take _
theorem snd_slice (h : Rel c st G w (tmOf a)) (hd : ∀ d, o.dst = some d -> d < a.tmps.size /\ c.pin d = none) (hk : ∀ e, k e = some r -> After c a K (e.apply o.dst st))
    {x : Operand} {lo hi mx : Option Operand} {t : Nat} (hop : o.op = .slice t x lo hi mx) (ht : TyOk P E t) (hs : (E.ty t).d = .scalar -> (E.ty t).isStr = true) (hte : ∀ e, (E.ty t).d = .slice e -> TyOk P E e)
    (hp : pre E o st = some pl) (hr : runPlan E call k pl = some r) : o.wp P a w K Q := by
  simp only [pre, hop, preSlice] at hp
  cases mx with
  | some _ => simp at hp
  | none =>
  simp only [] at hp
  split at hp
  · rename_i s hsc hx
    split at hp
    · rename_i l u hc
      cases hp
      obtain ⟨hcond, hke⟩ := runAlts_one hr
      simp only [Bool.and_eq_true, decide_eq_true_eq] at hcond
      have hv := v_str (operand_rel h hx)
      have hb := fun isS => run_cutB (P := P) (isS := isS) h hc hcond.1.1 hcond.1.2 hcond.2 (Nat.le_refl _)
      have hu := ht.isStr (hs (by simpa using hsc))
      exact wp_now h (val := .string (s.extract l.toNat u.toNat)) (by simp [execOp, hop, hv, Instr.sliceAt, Instr.slice, run_underlying hu, hb]) (mk_str _) hd (hk _ hke)
    · cases hp
  · rename_i te e xs hsl hx
    have hsl : (E.ty t).d = .slice te := by simpa using hsl
    obtain ⟨u1, u2, u3⟩ := ht.slice hsl
    have hte := hte te hsl
    split at hp
    · rename_i hn
      split at hp
      · rename_i l u hc
        cases hp
        obtain ⟨hcond, hke⟩ := runAlts_one hr
        simp only [Bool.and_eq_true, decide_eq_true_eq] at hcond
        have hv : RdL c.w0 c.ok [.ext e xs] [a.eval x] := (operand_rel h hx).1.1
        obtain ⟨A, cap, g1, g2, g3⟩ := hv.cut (l := l.toNat) (u := u.toNat) (by omega) (by omega)
        have hb := run_cutB (P := P) (isS := true) h hc hcond.1.1 hcond.1.2 hcond.2 g2
        exact wp_now (val := .slice (if cap = l.toNat then A else A.map (·.add (l.toNat * (E.ty te).sh.n))) (u.toNat - l.toNat) (cap - l.toNat)) h (by simp only [execOp, hop, g1, Option.map_none, Sem.run_bind, run_sliceAt u1 hte hb, Result.andThen_ok, Sem.run_pure]) (by rw [<- hn]; exact ⟨⟨g3, rfl⟩, trivial⟩) hd (hk _ hke)
      · cases hp
    · cases hp
  · rename_i te k' ep p e hsl hx
    have hsl : (E.ty t).d = .slice te := by simpa using hsl
    obtain ⟨u1, u2, u3⟩ := ht.slice hsl
    have hte := hte te hsl
    split at hp
    · rename_i hn
      split at hp
      · rename_i xs hxs
        split at hp
        · rename_i l u hc
          cases hp
          obtain ⟨hcond, hke⟩ := runAlts_one hr
          simp only [Bool.and_eq_true, decide_eq_true_eq] at hcond
          obtain ⟨ep0, e0, xs0, Fl, g1, g2, g3, g4, g5⟩ := h.ownAt (operand_rel h hx).1.1 hxs
          have fin : ∀ A cap, a.eval x = .slice A xs.length cap -> xs.length <= cap -> SubH (.slice A xs.length cap) l.toNat (u.toNat - l.toNat) e.n (.slice (if cap = l.toNat then A else A.map (·.add (l.toNat * e.n))) (u.toNat - l.toNat) (cap - l.toNat)) -> o.wp P a w K Q := by
            intro A cap q1 q2 q3
            have hb := run_cutB (P := P) (isS := true) h hc hcond.1.1 hcond.1.2 hcond.2 q2
            refine wp_now (val := .slice (if cap = l.toNat then A else A.map (·.add (l.toNat * (E.ty te).sh.n))) (u.toNat - l.toNat) (cap - l.toNat)) h (by simp only [execOp, hop, q1, Option.map_none, Sem.run_bind, run_sliceAt u1 hte hb, Result.andThen_ok, Sem.run_pure]) ?_ hd (hk _ hke)
            rw [<- hn]
            refine ⟨⟨⟨_, g1, fun ep1 e1 xs1 he => ?_⟩, rfl⟩, trivial⟩
            cases he
            exact ⟨g3, fun _ => ⟨xs, _, q1 ▸ g4, q3⟩⟩
          rcases g5.form2 with ⟨rfl, q1⟩ | ⟨g, o', cap, q1, q2⟩
          · refine fin none 0 q1 (Nat.le_refl _) ⟨_, _, _, _, _, rfl, rfl, ?_, ?_, .inl ⟨?_, ?_, .inl (by simp)⟩⟩ <;> simp at hcond ⊢ <;> omega
          · exact fin _ cap q1 q2 (SubH.of_form (by omega) (by omega) q2)
        · cases hp
      · cases hp
    · cases hp
  · rename_i te k' ep p e lo0 len0 hsl hx
    have hsl : (E.ty t).d = .slice te := by simpa using hsl
    obtain ⟨u1, u2, u3⟩ := ht.slice hsl
    have hte := hte te hsl
    split at hp
    · rename_i hn
      split at hp
      · rename_i xs hxs
        split at hp
        · rename_i l u hc
          cases hp
          obtain ⟨hcond, hke⟩ := runAlts_one hr
          simp only [Bool.and_eq_true, decide_eq_true_eq] at hcond
          obtain ⟨ep0, e0, xs0, v0, Fl, g1, g2, g3, g4, g5, g6⟩ := h.subAt (operand_rel h hx).1.1 hxs
          obtain ⟨A, cap', q1, q2⟩ : ∃ A cap', a.eval x = .slice A len0 cap' /\ len0 <= cap' := by
            obtain ⟨_, _, _, A', cap', _, e2, _, e4, _⟩ := g6
            exact ⟨A', cap', e2, e4⟩
          have hb := run_cutB (P := P) (isS := true) h hc hcond.1.1 hcond.1.2 hcond.2 q2
          refine wp_now (val := .slice (if cap' = l.toNat then A else A.map (·.add (l.toNat * (E.ty te).sh.n))) (u.toNat - l.toNat) (cap' - l.toNat)) h (by simp only [execOp, hop, q1, Option.map_none, Sem.run_bind, run_sliceAt u1 hte hb, Result.andThen_ok, Sem.run_pure]) ?_ hd (hk _ hke)
          rw [<- hn]
          refine ⟨⟨⟨_, g1, fun ep1 e1 xs1 he => ?_⟩, rfl⟩, trivial⟩
          cases he
          rw [q1] at g6
          exact ⟨g3, fun _ => ⟨xs, v0, g4, g6.cut (by omega) (by omega)⟩⟩
        · cases hp
      · cases hp
    · cases hp
  · cases hp
end
end Go.Proofs.YtaflceohlijekaaGreat.Ev
namespace Go.Proofs.YtaflceohlijekaaGreat.Ev
theorem setCell_heap (w : World) (b o : Nat) (v : Value) {cur : Array Value} {et : TypeId} {fr : Nat × Nat} (h : w.heap[b]? = some (.cells cur et fr)) :
    (w.setCell ⟨b, o, none⟩ v).heap[b]? = some (.cells (cur.setIfInBounds o v) et fr) := by
  simp [World.setCell, Array.getElem?_modify, h]
theorem setCell_other (w : World) (b o : Nat) (v : Value) (k : Nat) (h : k ≠ b) : (w.setCell ⟨b, o, none⟩ v).heap[k]? = w.heap[k]? := by
  simp [World.setCell, Array.getElem?_modify, Ne.symm h]
theorem setCells_obj (b : Nat) : ∀ (vs : List Value) (o : Nat) (w : World) (cur : Array Value) (et : TypeId) (fr : Nat × Nat), w.heap[b]? = some (.cells cur et fr) ->
    ∃ cur', (w.setCells b o vs).heap[b]? = some (.cells cur' et fr) /\ cur'.size = cur.size /\ (∀ j, (j < o \/ o + vs.length <= j) -> cur'[j]? = cur[j]?) /\ (o + vs.length <= cur.size -> ∀ j, j < vs.length -> cur'[o + j]? = vs[j]?)
  | [], o, w, cur, et, fr, h => ⟨cur, h, rfl, fun _ _ => rfl, fun _ j hj => by simp at hj⟩
  | v :: r, o, w, cur, et, fr, h => by
    obtain ⟨cur', h1, h2, h3, h4⟩ := setCells_obj b r (o + 1) (w.setCell ⟨b, o, none⟩ v) _ et fr (setCell_heap w b o v h)
    refine ⟨cur', h1, by simpa using h2, fun j hj => ?_, fun hle j hj => ?_⟩
    · simp only [List.length_cons] at hj
      rw [h3 j (by omega), Array.getElem?_setIfInBounds_ne (by omega)]
    · simp only [List.length_cons] at hle hj
      cases j with
      | zero =>
        rw [Nat.add_zero, h3 o (by omega), Array.getElem?_setIfInBounds_self_of_lt (by omega)]
        rfl
      | succ j =>
        have := h4 (by simp; omega) j (by omega)
        rw [show o + (j + 1) = o + 1 + j by omega, this]
        rfl
theorem setCells_other (b : Nat) : ∀ (vs : List Value) (o : Nat) (w : World) (k : Nat), k ≠ b -> (w.setCells b o vs).heap[k]? = w.heap[k]?
  | [], _, _, _, _ => rfl
  | v :: r, o, w, k, h => by rw [World.setCells, setCells_other b r (o + 1) _ k h, setCell_other w b o v k h]
theorem setCells_size (b : Nat) : ∀ (vs : List Value) (o : Nat) (w : World), (w.setCells b o vs).heap.size = w.heap.size
  | [], _, _ => rfl
  | v :: r, o, w => by rw [World.setCells, setCells_size b r]; simp [World.setCell]
theorem setCells_rest (b : Nat) : ∀ (vs : List Value) (o : Nat) (w : World), (w.setCells b o vs).os = w.os /\ (w.setCells b o vs).tape = w.tape /\ (w.setCells b o vs).output = w.output
  | [], _, _ => ⟨rfl, rfl, rfl⟩
  | v :: r, o, w => by rw [World.setCells]; exact setCells_rest b r (o + 1) _
theorem setCells_kept (w : World) (b o : Nat) (vs : List Value) {cur : Array Value} {et : TypeId} {fr : Nat × Nat} (h : w.heap[b]? = some (.cells cur et fr)) :
    KeptW (fun _ => False) (fun b' o' => b' = b /\ o <= o' /\ o' < o + vs.length) w (w.setCells b o vs) := by
  obtain ⟨h1, h2, h3⟩ := setCells_rest b vs o w
  refine ⟨h1, h2, h3, by rw [setCells_size]; exact Nat.le_refl _, fun k hk _ => ?_⟩
  by_cases hkb : k = b
  · subst hkb
    obtain ⟨cur', g1, g2, g3, g4⟩ := setCells_obj k vs o w cur et fr h
    refine .inr ⟨cur, cur', et, fr, h, g1, g2, fun j hj => g3 j ?_⟩
    have : ¬ (o <= j /\ j < o + vs.length) := fun q => hj ⟨rfl, q⟩
    omega
  · exact .inl (setCells_other b vs o w k hkb)
theorem cellAt_obj {w : World} {b o : Nat} {v : Value} (h : cellAt w b o = some v) : ∃ cur et fr, w.heap[b]? = some (.cells cur et fr) /\ cur[o]? = some v := by
  unfold cellAt World.cell? at h
  simp only at h
  split at h
  · rename_i c et fr hc
    exact ⟨c, et, fr, hc, by simpa using h⟩
  · cases h
theorem cells_of_one {v : Value} (h : v.oneCell' = true) : v.cells = #[v] := by
  cases v <;> first | rfl | (simp [Value.oneCell'] at h)
theorem VLs.cells {c : Cx} {us : List (Nat × UE)} {G : Gh} {w : World} {g : Bool} {ls : List Lf} {v : Value} (h : VLs c us G w g ls v) : ∃ cs : List Value, v.cells = cs.toArray /\ LsRel c us G w ls cs := by
  cases g with
  | true => obtain ⟨vs, rfl, h⟩ := h; exact ⟨vs, rfl, h⟩
  | false =>
    obtain ⟨l, rfl, h1, h2⟩ := VLs.one h
    exact ⟨[v], by rw [cells_of_one h2], ⟨h1, h2⟩, trivial⟩
theorem zero_rel {c : Cx} {us : List (Nat × UE)} {G : Gh} {w : World} : ∀ (s : Sh), LsRel c us G w (zeroLeaves s) (zeroVals s)
  | .int _ => ⟨⟨rfl, rfl⟩, trivial⟩
  | .bool => ⟨⟨rfl, rfl⟩, trivial⟩
  | .str => ⟨⟨rfl, rfl⟩, trivial⟩
  | .unit => trivial
  | .sl _ => ⟨⟨rfl, rfl⟩, trivial⟩
  | .pair a b => LsRel.append (zero_rel a) (zero_rel b)
theorem zeroLeaves_length : ∀ (s : Sh), (zeroLeaves s).length = s.n
  | .int _ => rfl
  | .bool => rfl
  | .str => rfl
  | .unit => rfl
  | .sl _ => rfl
  | .pair a b => by simp [zeroLeaves, Sh.n, zeroLeaves_length a, zeroLeaves_length b]
section
variable {P : Program} {E : Env} {c : Cx} {st : St} {G G' : Gh} {w w' : World} {a : Act} {o : Oper} {K : Act -> World -> Prop} {Q : Exit -> Act -> World -> Prop} {tm : Nat -> Value}
variable {R : Type} {call : E.Call} {k : Eff -> Option R} {r : R} {pl : Plan E}
theorem alloc_frozen (w : World) (cs : Array Value) (et : TypeId) (j : Nat) : (w.alloc (.cells cs et)).frozen? ⟨w.heap.size, j, none⟩ = false := by
  unfold World.frozen?
  rw [heap_alloc_new]
  simp
theorem alloc_cell (w : World) (cs : Array Value) (et : TypeId) (j : Nat) : cellAt (w.alloc (.cells cs et)) w.heap.size j = cs[j]? := by
  unfold cellAt World.cell?
  rw [heap_alloc_new]
  simp
theorem alloc_size (w : World) (x : Obj) : (w.alloc x).heap.size = w.heap.size + 1 := by
  show (w.heap.push x).size = _
  simp
theorem Rel.newVar (h : Rel c st G w tm) {d : Nat} {ls : List Lf} (hnone : getA st.vs d = none) {cs : List Value} (hls : LsRel c st.us G w ls cs) (et : TypeId) :
    ∃ G', G'.va d = (w.heap.size, 0) /\ Rel c ⟨st.sl, (d, ls) :: st.vs, st.us⟩ G' (w.alloc (.cells cs.toArray et)) tm /\ UCompat st.us st.us G G' w (w.alloc (.cells cs.toArray et)) /\ VCompat st.vs ((d, ls) :: st.vs) G G' := by
  let G' : Gh := { G with va := fun i => if i = d then (w.heap.size, 0) else G.va i }
  have hva : G'.va d = (w.heap.size, 0) := by simp [G']
  have huc : UCompat st.us st.us G G' w (w.alloc (.cells cs.toArray et)) := by
    intro k en hen
    refine ⟨en, hen, fun ep' e' xs' he => ⟨ep', xs', he, rfl, Nat.le_refl _, fun _ => ⟨rfl, fun p e'' ys v' hd => ?_⟩⟩⟩
    subst he
    exact hd.frame (h.unit k _ _ _ hen) (fun b hb => heap_alloc_old w _ _ (h.unitLt hen b hb))
  refine ⟨G', hva, h.upd (fun _ => False) (fun i => i = d) (us' := st.us) (vs' := (d, ls) :: st.vs) (G' := G') (KeptW.alloc (fun _ => False) (fun _ _ => False) w _) (fun _ _ q => q.elim) (fun _ _ _ q => q.elim) (fun _ _ => ⟨rfl, rfl, rfl⟩) ?_
    (fun _ _ _ _ q => q.elim) (fun _ _ _ _ _ _ _ _ q => q.elim) (fun _ _ q => q.elim) ?_ ?_ (fun _ _ _ _ _ _ q => q.elim) ?_⟩
  · intro i hi
    refine ⟨by rw [getA_cons, if_neg (fun e => hi e.symm)], ?_⟩
    simp only [G']
    rw [if_neg hi]
  · rintro i ls' rfl hi
    rw [getA_cons, if_pos rfl] at hi
    cases hi
    refine ⟨⟨cs, hls.carry huc, fun j v hj => ?_, fun j hj => ?_⟩, .inr ⟨hnone, ?_, ?_⟩⟩
    · rw [hva, Nat.zero_add, alloc_cell]
      simpa using hj
    · rw [hva]
      exact alloc_frozen w _ et _
    · rw [hva]; exact Nat.le_refl _
    · rw [hva, alloc_size]; simp
  · rintro i1 i2 l1 l2 rfl rfl _ _ _ _ q
    exact absurd rfl q
  · rintro i ls' rfl _
    exact ⟨ls, by rw [getA_cons, if_pos rfl]⟩
theorem snd_alloc (h : Rel c st G w (tmOf a)) (hd : ∀ d, o.dst = some d -> d < a.tmps.size /\ c.pin d = none) (hk : ∀ e, k e = some r -> After c a K (e.apply o.dst st))
    {t : Nat} (hop : o.op = .alloc t) (ht : TyOk P E t) (hp : pre E o st = some pl) (hr : runPlan E call k pl = some r) : o.wp P a w K Q := by
  simp only [pre, hop] at hp
  split at hp
  · rename_i d hdst
    split at hp
    · rename_i hn
      cases hp
      obtain ⟨_, hke⟩ := runAlts_one hr
      obtain ⟨z, hz, hzc⟩ := ht.zero w
      have hzc' : z.cells = (zeroVals (E.ty t).sh).toArray := arr_of hzc
      obtain ⟨G', hva, h', _, _⟩ := h.newVar hn (zero_rel (E.ty t).sh) t
      refine wp_done (val := .pointer (some ⟨w.heap.size, 0, none⟩)) ?_ h' ?_ hd (hk _ hke)
      · simp [execOp, hop, Instr.alloc, hz, newVar, newRow, hzc']
      · exact ⟨_, by rw [List.cons_append, getA_cons, if_pos rfl], by rw [hva]⟩
    · cases hp
  · cases hp
theorem snd_box (h : Rel c st G w (tmOf a)) (hd : ∀ d, o.dst = some d -> d < a.tmps.size /\ c.pin d = none) (hk : ∀ e, k e = some r -> After c a K (e.apply o.dst st))
    {t : Nat} {x : Operand} (hop : o.op = .box t x) (hp : pre E o st = some pl) (hr : runPlan E call k pl = some r) : o.wp P a w K Q := by
  simp only [pre, hop] at hp
  split at hp
  · rename_i g ls d hx hdst
    split at hp
    · rename_i hn
      split at hp
      · rename_i hl
        cases hp
        obtain ⟨_, hke⟩ := runAlts_one hr
        obtain ⟨cs, hcs, hls⟩ := VLs.cells (show VLs c st.us G w g ls (a.eval x) from operand_rel h hx)
        obtain ⟨G', hva, h', _, _⟩ := h.newVar hn hls t
        refine wp_done (val := .pointer (some ⟨w.heap.size, 0, none⟩)) ?_ h' ?_ hd (hk _ hke)
        · simp [execOp, hop, Instr.box, newVar, newRow, hcs]
        · exact ⟨_, by rw [List.cons_append, getA_cons, if_pos rfl], by rw [hva]⟩
      · cases hp
    · cases hp
  · cases hp
theorem setCells_kept' (w : World) (b o : Nat) (vs : List Value) (h : ∀ j, j < vs.length -> ∃ v, cellAt w b (o + j) = some v) :
    KeptW (fun _ => False) (fun b' o' => b' = b /\ o <= o' /\ o' < o + vs.length) w (w.setCells b o vs) := by
  cases vs with
  | nil => exact .refl _ _ _
  | cons v r =>
    obtain ⟨u, hu⟩ := h 0 (by simp)
    obtain ⟨cur, et, fr, hc, _⟩ := cellAt_obj hu
    exact setCells_kept w b o _ hc
theorem setCells_cell_in (w : World) (b o : Nat) (vs : List Value) (h : ∀ j, j < vs.length -> ∃ v, cellAt w b (o + j) = some v) (j : Nat) (v : Value) (hj : vs[j]? = some v) : cellAt (w.setCells b o vs) b (o + j) = some v := by
  obtain ⟨hjl, rfl⟩ := List.getElem?_eq_some_iff.1 hj
  exact World.cell?_setCells_in b vs o w (fun i hi => by obtain ⟨u, hu⟩ := h i hi; exact Option.isSome_iff_exists.2 ⟨u, hu⟩) j hjl
theorem setCells_cell_out (w : World) (b o : Nat) (vs : List Value) (b' o' : Nat) (h : b' = b -> o' < o \/ o + vs.length <= o') : cellAt (w.setCells b o vs) b' o' = cellAt w b' o' :=
  World.cell?_setCells_out b vs o w ⟨b', o', none⟩ (fun e _ => h e)
theorem setRange_eq : ∀ (off : Nat) (l ls : List Lf), off + ls.length <= l.length -> setRange off l ls = l.take off ++ (ls ++ l.drop (off + ls.length))
  | 0, l, [], _ => by cases l <;> simp [setRange]
  | off + 1, l, [], _ => by
    have : setRange (off + 1) l [] = l := by cases l <;> simp [setRange]
    simp [this]
  | 0, h :: t, v :: vs, hl => by
    simp only [setRange, List.take_zero, List.nil_append, Nat.zero_add, List.length_cons, List.drop_succ_cons, List.cons_append]
    rw [setRange_eq 0 t vs (by simp at hl; omega)]
    simp
  | off + 1, h :: t, v :: vs, hl => by
    rw [setRange, setRange_eq off t (v :: vs) (by simp at hl ⊢; omega)]
    simp [show off + 1 + (vs.length + 1) = (off + (vs.length + 1)) + 1 by omega]
    · simp
  | 0, [], v :: vs, hl => by simp at hl
  | off + 1, [], v :: vs, hl => by simp at hl
theorem setRange_length {off : Nat} {l ls : List Lf} (h : off + ls.length <= l.length) : (setRange off l ls).length = l.length := by
  rw [setRange_eq off l ls h]
  simp
  omega
theorem Rel.storeVar (h : Rel c st G w tm) {r off : Nat} {l ls : List Lf} (hr : getA st.vs r = some l) (hle : off + ls.length <= l.length) {news : List Value} (hls : LsRel c st.us G w ls news) :
    (storeCells ⟨(G.va r).1, (G.va r).2 + off, none⟩ news).run P w = .ok () (w.setCells (G.va r).1 ((G.va r).2 + off) news) /\
    Rel c ⟨st.sl, (r, setRange off l ls) :: st.vs, st.us⟩ G (w.setCells (G.va r).1 ((G.va r).2 + off) news) tm /\ UCompat st.us st.us G G w (w.setCells (G.va r).1 ((G.va r).2 + off) news) /\ VCompat st.vs ((r, setRange off l ls) :: st.vs) G G := by
  obtain ⟨vs, a1, a2, a3⟩ := h.var r l hr
  have hlen := a1.length
  have hnl := hls.length
  have hex : ∀ j, j < news.length -> ∃ v, cellAt w (G.va r).1 ((G.va r).2 + off + j) = some v := by
    intro j hj
    have hlt : off + j < vs.length := by omega
    exact ⟨vs[off + j], by rw [Nat.add_assoc]; exact a2 _ _ (List.getElem?_eq_getElem hlt)⟩
  refine ⟨?_, ?_⟩
  · have := run_storeCells_cells (P := P) (G.va r).1 ((G.va r).2 + off) news 0 w (fun j hj => by
        obtain ⟨u, hu⟩ := hex j hj
        simp only [Nat.add_zero]
        exact Option.isSome_iff_exists.2 ⟨u, hu⟩) (fun j hj => by
        simp only [Nat.add_zero]
        rw [Nat.add_assoc]
        exact a3 _ (by omega)) hls.one
    simpa using this
  · have hkept := setCells_kept' w (G.va r).1 ((G.va r).2 + off) news hex
    have huc : UCompat st.us st.us G G w (w.setCells (G.va r).1 ((G.va r).2 + off) news) := by
      intro k en hen
      refine ⟨en, hen, fun ep' e' xs' he => ⟨ep', xs', he, rfl, Nat.le_refl _, fun _ => ⟨rfl, fun p e'' ys v' hd => ?_⟩⟩⟩
      subst he
      refine hd.frame (h.unit k _ _ _ hen) (fun b hb => setCells_other _ _ _ _ _ ?_)
      rintro rfl
      exact h.dUV k _ _ _ r l hen hr hb
    refine h.upd (fun _ => False) (fun i => i = r) hkept (fun _ _ q => q.elim) ?_ (fun _ _ => ⟨rfl, rfl, rfl⟩) ?_ (fun _ _ _ _ q => q.elim) (fun _ _ _ _ _ _ _ _ q => q.elim) (fun _ _ q => q.elim) ?_ ?_ (fun _ _ _ _ _ _ q => q.elim) ?_
    · rintro b o' _ ⟨rfl, h1, h2⟩
      exact ⟨r, l, o' - (G.va r).2, rfl, hr, by omega, rfl, by omega⟩
    · intro i hi
      exact ⟨by rw [getA_cons, if_neg (fun e => hi e.symm)], rfl⟩
    · rintro i ls' rfl hi
      rw [getA_cons, if_pos rfl] at hi
      cases hi
      refine ⟨⟨vs.take off ++ (news ++ vs.drop (off + news.length)), ?_, fun j v hj => ?_, fun j hj => ?_⟩, .inl ⟨l, hr, setRange_length hle, rfl⟩⟩
      · rw [setRange_eq _ _ _ hle, hnl]
        exact LsRel.append (LsRel.take _ (a1.carry huc)) (LsRel.append (hls.carry huc) (LsRel.drop _ (a1.carry huc)))
      · by_cases h1 : j < off
        · rw [List.getElem?_append_left (by simp; omega), List.getElem?_take, if_pos h1] at hj
          rw [setCells_cell_out _ _ _ _ _ _ (fun _ => .inl (by omega))]
          exact a2 j v hj
        · rw [List.getElem?_append_right (by simp; omega)] at hj
          simp only [List.length_take] at hj
          rw [Nat.min_eq_left (by omega)] at hj
          by_cases h2 : j < off + news.length
          · rw [List.getElem?_append_left (by omega)] at hj
            have := setCells_cell_in w _ _ news hex (j - off) v hj
            rw [show (G.va i).2 + off + (j - off) = (G.va i).2 + j by omega] at this
            exact this
          · rw [List.getElem?_append_right (by omega), List.getElem?_drop, show off + news.length + (j - off - news.length) = j by omega] at hj
            rw [setCells_cell_out _ _ _ _ _ _ (fun _ => .inr (by omega))]
            exact a2 j v hj
      · rw [World.frozen?_setCells]
        rw [setRange_length hle] at hj
        exact a3 j hj
    · rintro i1 i2 l1 l2 rfl rfl _ _ _ _ q
      exact absurd rfl q
    · rintro i ls' rfl _
      exact ⟨_, by rw [getA_cons, if_pos rfl]⟩
end
end Go.Proofs.YtaflceohlijekaaGreat.Ev
namespace Go.Proofs.YtaflceohlijekaaGreat.Ev
theorem OwnL.sub {w : World} {e : Sh} {xs : List e.T} {v0 v : Value} {F : Nat -> Prop} {lo len : Nat} (h : OwnL w [.ext e xs] [v0] F) (hs : SubH v0 lo len e.n v) :
    ∃ F', OwnL w [.ext e ((xs.drop lo).take len)] [v] F' /\ ∀ b, F' b -> F b := by
  obtain ⟨A, n, cap, A', cap', e1, e2, e3, e4, e5⟩ := hs
  cases h with
  | nl h =>
    cases e1
    have hl : len = 0 := by omega
    subst hl
    rcases e5 with ⟨_, e5, e6⟩ | ⟨g, o, e6, _⟩
    · rcases e6 with e6 | ⟨g, o, o', e6, _⟩
      · subst e2
        rw [e5, e6]
        simp only [List.take_zero]
        exact ⟨_, .nl .nil, fun _ h => h.elim⟩
      · cases e6
    · cases e6
  | sl h1 h2 h3 h4 h5 h6 h7 h8 h9 h10 h11 =>
    rename_i g o n' cap2 cur et fr F1 F2
    cases e1
    subst h1
    rcases e5 with ⟨e5, e6, e7⟩ | ⟨g', o', e6, e7, e8⟩
    · subst e5
      subst e2
      rw [e6]
      simp only [List.take_zero]
      rcases e7 with e7 | ⟨g1, o1, o2, e7, e8, e9⟩
      · rw [e7]
        exact ⟨_, .nl .nil, fun _ h => h.elim⟩
      · cases e7
        rw [e8]
        refine ⟨_, .sl (cap := 0) rfl (Nat.le_refl _) (Nat.zero_le _) (by omega) h5 h6 (F1 := fun _ => False) ?_ (fun h => h) .nil (fun h => h) (fun _ h => h.elim), ?_⟩
        · simp only [List.flatMap_nil, List.length_nil, Nat.zero_mul, List.take_zero]
          exact .nil
        · rintro b (rfl | hb | hb)
          · exact .inl rfl
          · exact hb.elim
          · exact hb.elim
    · cases e6
      subst e2
      rw [e7]
      have hx : xs = xs.take lo ++ ((xs.drop lo).take len ++ (xs.drop lo).drop len) := by rw [List.take_append_drop, List.take_append_drop]
      have hfm : xs.flatMap (flat e) = (xs.take lo).flatMap (flat e) ++ (((xs.drop lo).take len).flatMap (flat e) ++ ((xs.drop lo).drop len).flatMap (flat e)) := by
        rw [<- List.flatMap_append, <- List.flatMap_append, <- hx]
      have h7' := h7
      rw [hfm] at h7'
      obtain ⟨v1, v23, Fa, Fb, q1, q2, q3, q4, q5⟩ := h7'.split
      obtain ⟨v2, v3, Fc, Fd, q6, q7, q8, q9, q10⟩ := q3.split
      have l1 : v1.length = lo * e.n := by rw [q2.length, flatMap_length, List.length_take, Nat.min_eq_left (by omega)]
      have l2 : v2.length = len * e.n := by rw [q7.length, flatMap_length, List.length_take, List.length_drop, Nat.min_eq_left (by omega)]
      have hlen : ((xs.drop lo).take len).length = len := by simp; omega
      have hv2 : (cur.toList.drop (o + lo * e.n)).take (len * e.n) = v2 := by
        have := congrArg (fun l => (l.drop (lo * e.n)).take (len * e.n)) q1
        simp only [q6] at this
        rw [List.drop_left' l1, List.take_left' l2, List.drop_take, List.drop_drop, List.take_take] at this
        rw [<- this]
        congr 1
        have a1 : (lo + len) * e.n <= xs.length * e.n := Nat.mul_le_mul_right _ e3
        rw [Nat.add_mul] at a1
        omega
      refine ⟨_, .sl (F1 := Fc) hlen e4 (by omega) ?_ h5 h6 ?_ ?_ .nil (fun h => h) (fun _ _ h => h), ?_⟩
      · rw [<- e8, Nat.add_mul] at h4
        omega
      · rw [hv2]; exact q7
      · exact fun h => h8 ((q5 _).2 (.inr ((q10 _).2 (.inl h))))
      · rintro b (rfl | hb | hb)
        · exact .inl rfl
        · exact .inr (.inl ((q5 _).2 (.inr ((q10 _).2 (.inl hb)))))
        · exact hb.elim
structure Given (G : Gh) (us nu : List (Nat × UE)) (F : Nat -> Prop) : Prop where
  gone : ∀ k en, getA nu k = some en -> en = .gone /\ ∃ ep e xs, getA us k = some (.own ep e xs)
  foot : ∀ b, F b -> ∃ k ep e xs, getA nu k = some .gone /\ getA us k = some (.own ep e xs) /\ G.uf k b
theorem Given.zero (G : Gh) (us : List (Nat × UE)) : Given G us [] (fun _ => False) := ⟨fun _ _ h => (by cases h), fun _ h => h.elim⟩
theorem Given.one {G : Gh} {us : List (Nat × UE)} {k0 ep : Nat} {e : Sh} {xs : List e.T} {F : Nat -> Prop} (hk : getA us k0 = some (.own ep e xs)) (hF : ∀ b, F b -> G.uf k0 b) : Given G us [(k0, .gone)] F := by
  refine ⟨fun k en he => ?_, fun b hb => ⟨k0, _, _, _, by rw [getA_cons, if_pos rfl], hk, hF b hb⟩⟩
  rw [getA_cons] at he
  split at he
  · rename_i hkk
    subst hkk
    cases he
    exact ⟨rfl, _, _, _, hk⟩
  · cases he
section
variable {P : Program} {E : Env} {c : Cx} {st : St} {G G' : Gh} {w w' : World} {a : Act} {o : Oper} {K : Act -> World -> Prop} {Q : Exit -> Act -> World -> Prop} {tm : Nat -> Value}
variable {R : Type} {call : E.Call} {k : Eff -> Option R} {r : R} {pl : Plan E}
theorem giveLf_own (h : Rel c st G w tm) {us : List (Nat × UE)} (hs : ∀ k ep e xs, getA us k = some (.own ep e xs) -> getA st.us k = some (.own ep e xs)) {l : Lf} {s : Sh} {y : s.T} {nu : List (Nat × UE)} {v : Value}
    (hg : giveLf us l s = some (y, nu)) (hv : LfRel c st.us G w l v) : ∃ F, OwnL w (flat s y) [v] F /\ Given G us nu F := by
  unfold giveLf at hg
  split at hg
  · split at hg
    · rename_i hk
      subst hk
      cases hg
      have : v = _ := hv
      subst this
      exact ⟨_, .int .nil, .zero _ _⟩
    · cases hg
  · cases hg
    have : v = _ := hv
    subst this
    exact ⟨_, .bool .nil, .zero _ _⟩
  · cases hg
    have : v = _ := hv
    subst this
    exact ⟨_, .str .nil, .zero _ _⟩
  · cases hg
    have : v = _ := hv
    subst this
    exact ⟨_, .nl .nil, .zero _ _⟩
  · rename_i k0 _ _ e'
    split at hg
    · rename_i ep e xs hk
      split at hg
      · rename_i he
        subst he
        cases hg
        obtain ⟨en, q1, q2⟩ := hv
        have hk' := hs _ _ _ _ hk
        rw [hk'] at q1
        cases q1
        obtain ⟨ys, hd⟩ := (q2 _ _ _ rfl).2 (.inl rfl)
        have hu := h.unit _ _ _ _ hk'
        generalize G.uv k0 = u at hd hu
        cases hd
        exact ⟨_, hu, .one hk fun _ h => h⟩
      · cases hg
    · cases hg
  · rename_i k0 _ _ lo len e'
    split at hg
    · rename_i ep e xs hk
      split at hg
      · rename_i he
        subst he
        cases hg
        obtain ⟨en, q1, q2⟩ := hv
        have hk' := hs _ _ _ _ hk
        rw [hk'] at q1
        cases q1
        obtain ⟨ys, v0, hd, hsub⟩ := (q2 _ _ _ rfl).2 (.inl rfl)
        have hu := h.unit _ _ _ _ hk'
        generalize G.uv k0 = u at hd hu
        cases hd
        obtain ⟨F', f1, f2⟩ := hu.sub hsub
        exact ⟨F', f1, .one hk f2⟩
      · cases hg
    · cases hg
  · cases hg
theorem Given.app {us u1 u2 : List (Nat × UE)} {F1 F2 : Nat -> Prop} (h1 : Given G us u1 F1) (h2 : Given G (u1 ++ us) u2 F2) : Given G us (u2 ++ u1) (fun b => F1 b \/ F2 b) := by
  have key : ∀ k ep e xs, getA (u1 ++ us) k = some (.own ep e xs) -> getA u1 k = none /\ getA us k = some (.own ep e xs) := by
    intro k ep e xs hk
    rw [getA_append] at hk
    cases h : getA u1 k with
    | none => rw [h] at hk; exact ⟨rfl, hk⟩
    | some en =>
      rw [h] at hk
      simp only [Option.some.injEq] at hk
      subst hk
      cases (h1.gone k _ h).1
  refine ⟨fun k en he => ?_, ?_⟩
  · rw [getA_append] at he
    cases h : getA u2 k with
    | some en2 =>
      rw [h] at he
      cases he
      obtain ⟨a, ep, e, xs, b⟩ := h2.gone k _ h
      exact ⟨a, ep, e, xs, (key _ _ _ _ b).2⟩
    | none =>
      rw [h] at he
      exact h1.gone k _ he
  · rintro b (hb | hb)
    · obtain ⟨k, ep, e, xs, a1, a2, a3⟩ := h1.foot b hb
      refine ⟨k, ep, e, xs, ?_, a2, a3⟩
      rw [getA_append]
      cases h : getA u2 k with
      | some en2 => simp only [(h2.gone k _ h).1]
      | none => exact a1
    · obtain ⟨k, ep, e, xs, a1, a2, a3⟩ := h2.foot b hb
      exact ⟨k, ep, e, xs, by rw [getA_append, a1], (key _ _ _ _ a2).2, a3⟩
theorem give_own (h : Rel c st G w tm) : ∀ (s : Sh) (us : List (Nat × UE)) (ls : List Lf) (y : s.T) (nu : List (Nat × UE)) (rest : List Lf) (vs : List Value),
    (∀ k ep e xs, getA us k = some (.own ep e xs) -> getA st.us k = some (.own ep e xs)) -> give us s ls = some (y, nu, rest) -> LsRel c st.us G w ls vs ->
    ∃ v1 v2 F, vs = v1 ++ v2 /\ v1.length = s.n /\ LsRel c st.us G w rest v2 /\ OwnL w (flat s y) v1 F /\ Given G us nu F := by
  have one : ∀ (s : Sh) (us : List (Nat × UE)) (l : Lf) (y : s.T) (nu : List (Nat × UE)) (rest : List Lf) (vs : List Value),
      (∀ k ep e xs, getA us k = some (.own ep e xs) -> getA st.us k = some (.own ep e xs)) -> giveLf us l s = some (y, nu) -> LsRel c st.us G w (l :: rest) vs -> s.n = 1 ->
      ∃ v1 v2 F, vs = v1 ++ v2 /\ v1.length = s.n /\ LsRel c st.us G w rest v2 /\ OwnL w (flat s y) v1 F /\ Given G us nu F := by
    intro s us l y nu rest vs hs hg hv hn
    cases vs with
    | nil => exact hv.elim
    | cons v vs =>
      obtain ⟨F, f1, f2⟩ := giveLf_own h hs hg hv.1.1
      exact ⟨[v], vs, F, rfl, by simp [hn], hv.2, f1, f2⟩
  intro s
  induction s with
  | unit =>
    intro us ls y nu rest vs hs hg hv
    cases hg
    exact ⟨[], vs, _, rfl, rfl, hv, .nil, .zero _ _⟩
  | pair a b iha ihb =>
    intro us ls y nu rest vs hs hg hv
    simp only [give] at hg
    split at hg
    · rename_i x u1 l1 h1
      split at hg
      · rename_i z u2 l2 h2
        cases hg
        obtain ⟨v1, v2, F1, rfl, a1, a2, a3, a4⟩ := iha _ _ _ _ _ _ hs h1 hv
        have hs2 : ∀ k ep e xs, getA (u1 ++ us) k = some (.own ep e xs) -> getA u1 k = none /\ getA us k = some (.own ep e xs) := by
          intro k ep e xs hk
          rw [getA_append] at hk
          cases h : getA u1 k with
          | none => rw [h] at hk; exact ⟨rfl, hk⟩
          | some en =>
            rw [h] at hk
            simp only [Option.some.injEq] at hk
            subst hk
            cases (a4.gone k _ h).1
        obtain ⟨v3, v4, F2, rfl, b1, b2, b3, b4⟩ := ihb _ _ _ _ _ _ (fun k ep e xs hk => hs _ _ _ _ (hs2 _ _ _ _ hk).2) h2 a2
        refine ⟨v1 ++ v3, v4, _, by simp, by simp [a1, b1, Sh.n], b2, a3.append b3 ?_, a4.app b4⟩
        intro b hb hb2
        obtain ⟨k1, ep1, e1, xs1, p1, p2, p3⟩ := a4.foot b hb
        obtain ⟨k2, ep2, e2, xs2, q1, q2, q3⟩ := b4.foot b hb2
        obtain ⟨r1, r2⟩ := hs2 _ _ _ _ q2
        exact h.dUU k1 k2 _ _ _ _ _ _ (hs _ _ _ _ p2) (hs _ _ _ _ r2) (fun e => by rw [e, r1] at p1; cases p1) b p3 q3
      · cases hg
    · cases hg
  | int kk =>
    intro us ls y nu rest vs hs hg hv
    simp only [give] at hg
    split at hg
    · split at hg
      · rename_i hl
        cases hg
        exact one _ _ _ _ _ _ _ hs hl hv rfl
      · cases hg
    · cases hg
  | bool =>
    intro us ls y nu rest vs hs hg hv
    simp only [give] at hg
    split at hg
    · split at hg
      · rename_i hl
        cases hg
        exact one _ _ _ _ _ _ _ hs hl hv rfl
      · cases hg
    · cases hg
  | str =>
    intro us ls y nu rest vs hs hg hv
    simp only [give] at hg
    split at hg
    · split at hg
      · rename_i hl
        cases hg
        exact one _ _ _ _ _ _ _ hs hl hv rfl
      · cases hg
    · cases hg
  | sl e =>
    intro us ls y nu rest vs hs hg hv
    simp only [give] at hg
    split at hg
    · split at hg
      · rename_i hl
        cases hg
        exact one _ _ _ _ _ _ _ hs hl hv rfl
      · cases hg
    · cases hg
theorem subAt_pair0 (a b : Sh) (x : (Sh.pair a b).T) (s : Sh) (hne : ¬ Sh.pair a b = s) : Ev.subAt (.pair a b) x 0 s = Ev.subAt a x.1 0 s := by
  rw [Ev.subAt, dif_neg hne]
theorem setSub_pair0 (a b : Sh) (x : (Sh.pair a b).T) (s : Sh) (y : s.T) (hne : ¬ s = Sh.pair a b) : setSub (.pair a b) x 0 s y = match setSub a x.1 0 s y with | some x1 => some (x1, x.2) | none => none := by
  rw [setSub, dif_neg hne]
  dsimp only
  cases setSub a x.1 0 s y <;> rfl
theorem setSub_succ (a b : Sh) (x : (Sh.pair a b).T) (o : Nat) (s : Sh) (y : s.T) : setSub (.pair a b) x (o + 1) s y = bif Nat.blt (o + 1) a.n
      then (match setSub a x.1 (o + 1) s y with | some x1 => some (x1, x.2) | none => none)
      else (match setSub b x.2 (o + 1 - a.n) s y with | some x2 => some (x.1, x2) | none => none) := by
  rw [setSub]
  cases (o + 1).blt a.n
  · simp only [cond_false]
    cases setSub b x.2 (o + 1 - a.n) s y <;> rfl
  · simp only [cond_true]
    cases setSub a x.1 (o + 1) s y <;> rfl
theorem setSub_self (e : Sh) (x y : e.T) : setSub e x 0 e y = some y := by
  rw [setSub, dif_pos rfl]
theorem subAt_whole {w : World} (e : Sh) (x : e.T) (inner : List Value) (F : Nat -> Prop) (ho : OwnL w (flat e x) inner F) :
    0 + e.n <= e.n /\ ∃ F1 F2, OwnL w (flat e x) ((inner.drop 0).take e.n) F1 /\ Dj F1 F2 /\ (∀ b, F b ↔ F1 b \/ F2 b) /\
      ∀ (y : e.T), ∃ x1, setSub e x 0 e y = some x1 /\ ∀ w' news Fy, (∀ b, F2 b -> w'.heap[b]? = w.heap[b]?) -> OwnL w' (flat e y) news Fy -> Dj Fy F2 ->
        OwnL w' (flat e x1) (inner.take 0 ++ (news ++ inner.drop (0 + news.length))) (fun b => Fy b \/ F2 b) := by
  have hl : inner.length = e.n := by rw [ho.length, flat_length]
  refine ⟨by simp, F, fun _ => False, by rw [List.drop_zero, List.take_of_length_le (by omega)]; exact ho, fun _ _ h => h, fun b => by simp, fun y => ⟨y, setSub_self e x y, fun w' news Fy _ hy _ => ?_⟩⟩
  have : news.length = inner.length := by rw [hy.length, flat_length, hl]
  rw [List.take_zero, List.nil_append, List.drop_of_length_le (by omega), List.append_nil]
  exact hy.eqv fun b => by simp
theorem subAt_own {w : World} : ∀ (e : Sh) (x : e.T) (off : Nat) (s : Sh) (z : s.T) (inner : List Value) (F : Nat -> Prop), Ev.subAt e x off s = some z -> OwnL w (flat e x) inner F ->
    off + s.n <= e.n /\ ∃ F1 F2, OwnL w (flat s z) ((inner.drop off).take s.n) F1 /\ Dj F1 F2 /\ (∀ b, F b ↔ F1 b \/ F2 b) /\
      ∀ (y : s.T), ∃ x1, setSub e x off s y = some x1 /\ ∀ w' news Fy, (∀ b, F2 b -> w'.heap[b]? = w.heap[b]?) -> OwnL w' (flat s y) news Fy -> Dj Fy F2 ->
        OwnL w' (flat e x1) (inner.take off ++ (news ++ inner.drop (off + news.length))) (fun b => Fy b \/ F2 b) := by
  intro e
  induction e with
  | pair a b iha ihb =>
    intro x off s z inner F hx ho
    have hl : inner.length = a.n + b.n := by rw [ho.length, flat_length]; rfl
    by_cases h0 : off = 0 /\ Sh.pair a b = s
    · obtain ⟨rfl, rfl⟩ := h0
      rw [Ev.subAt, dif_pos rfl] at hx
      cases hx
      exact subAt_whole _ x inner F ho
    · simp only [flat] at ho
      obtain ⟨v1, v2, F1, F2, rfl, h1, h2, h3, h4⟩ := ho.split
      have l1 : v1.length = a.n := by rw [h1.length, flat_length]
      have left : off < a.n \/ off = 0 -> Ev.subAt a x.1 off s = some z -> (∀ y x1, setSub a x.1 off s y = some x1 -> setSub (.pair a b) x off s y = some (x1, x.2)) ->
          off + s.n <= (Sh.pair a b).n /\ ∃ Fp Fq, OwnL w (flat s z) (((v1 ++ v2).drop off).take s.n) Fp /\ Dj Fp Fq /\ (∀ b, F b ↔ Fp b \/ Fq b) /\
            ∀ (y : s.T), ∃ x1, setSub (.pair a b) x off s y = some x1 /\ ∀ w' news Fy, (∀ b, Fq b -> w'.heap[b]? = w.heap[b]?) -> OwnL w' (flat s y) news Fy -> Dj Fy Fq ->
              OwnL w' (flat (.pair a b) x1) ((v1 ++ v2).take off ++ (news ++ (v1 ++ v2).drop (off + news.length))) (fun b => Fy b \/ Fq b) := by
        intro hoff hsub hset
        obtain ⟨g1, Fa, Fb, g2, g3, g4, g5⟩ := iha x.1 off s z v1 F1 hsub h1
        refine ⟨by simp only [Sh.n]; omega, Fa, fun b => Fb b \/ F2 b, ?_, ?_, ?_, fun y => ?_⟩
        · rw [List.drop_append_of_le_length (by omega), List.take_append_of_le_length (by simp; omega)]
          exact g2
        · intro b hb hb2
          rcases hb2 with hb2 | hb2
          · exact g3 b hb hb2
          · exact h3 b ((g4 b).2 (.inl hb)) hb2
        · intro b
          rw [h4, g4]
          simp only [or_assoc]
        · obtain ⟨x1, k1, k2⟩ := g5 y
          refine ⟨_, hset y x1 k1, fun w' news Fy hk hy hd => ?_⟩
          have hn : news.length = s.n := by rw [hy.length, flat_length]
          have := k2 w' news Fy (fun b hb => hk b (.inl hb)) hy (fun b p q => hd b p (.inl q))
          have h2' := h2.frame (w' := w') (fun b hb => hk b (.inr hb))
          have := this.append h2' (fun b p q => by
            rcases p with p | p
            · exact hd b p (.inr q)
            · exact h3 b ((g4 b).2 (.inr p)) q)
          simp only [flat]
          rw [List.take_append_of_le_length (by omega), List.drop_append_of_le_length (by omega)]
          have e2 : v1.take off ++ (news ++ (v1.drop (off + news.length) ++ v2)) = (v1.take off ++ (news ++ v1.drop (off + news.length))) ++ v2 := by simp
          rw [e2]
          exact this.eqv fun b => by simp only [or_assoc]
      cases off with
      | zero =>
        have hne : ¬ Sh.pair a b = s := fun e => h0 ⟨rfl, e⟩
        have hne' : ¬ s = Sh.pair a b := fun e => hne e.symm
        refine left (.inr rfl) (by rw [subAt_pair0 _ _ _ _ hne] at hx; exact hx) (fun y x1 hy => ?_)
        rw [setSub_pair0 _ _ _ _ _ hne', hy]
      | succ off =>
        simp only [Ev.subAt] at hx
        cases hb : Nat.blt (off + 1) a.n with
        | true =>
          rw [hb] at hx
          exact left (.inl (blt_true hb)) hx (fun y x1 hy => by rw [setSub_succ, hb, cond_true, hy])
        | false =>
          rw [hb] at hx
          have hge := blt_false hb
          obtain ⟨g1, Fa, Fb, g2, g3, g4, g5⟩ := ihb x.2 (off + 1 - a.n) s z v2 F2 hx h2
          refine ⟨by simp only [Sh.n]; omega, Fa, fun b => F1 b \/ Fb b, ?_, ?_, ?_, fun y => ?_⟩
          · rw [List.drop_append, List.drop_of_length_le (by omega), List.nil_append, l1]
            exact g2
          · intro b hb hb2
            rcases hb2 with hb2 | hb2
            · exact h3 b hb2 ((g4 b).2 (.inl hb))
            · exact g3 b hb hb2
          · intro b
            rw [h4, g4]
            constructor
            · rintro (p | p | p)
              · exact .inr (.inl p)
              · exact .inl p
              · exact .inr (.inr p)
            · rintro (p | p | p)
              · exact .inr (.inl p)
              · exact .inl p
              · exact .inr (.inr p)
          · obtain ⟨x1, k1, k2⟩ := g5 y
            refine ⟨(x.1, x1), by rw [setSub_succ, hb, cond_false, k1], fun w' news Fy hk hy hd => ?_⟩
            have := k2 w' news Fy (fun b hb => hk b (.inr hb)) hy (fun b p q => hd b p (.inr q))
            have h1' := h1.frame (w' := w') (fun b hb => hk b (.inl hb))
            have := h1'.append this (fun b p q => by
              rcases q with q | q
              · exact hd b q (.inl p)
              · exact h3 b p ((g4 b).2 (.inr q)))
            simp only [flat]
            rw [List.take_append, List.take_of_length_le (by omega), l1, List.drop_append, List.drop_of_length_le (l := v1) (by omega), List.nil_append, l1, show off + 1 + news.length - a.n = off + 1 - a.n + news.length by omega, List.append_assoc]
            exact this.eqv fun b => by
              constructor
              · rintro (p | p | p)
                · exact .inr (.inl p)
                · exact .inl p
                · exact .inr (.inr p)
              · rintro (p | p | p)
                · exact .inr (.inl p)
                · exact .inl p
                · exact .inr (.inr p)
  | int kk =>
    intro x off s z inner F hx ho
    cases off with
    | zero =>
      simp only [Ev.subAt] at hx
      split at hx
      · rename_i he
        subst he
        cases hx
        exact subAt_whole _ x inner F ho
      · cases hx
    | succ off => rw [Ev.subAt] at hx; cases hx; all_goals (intros; contradiction)
  | bool =>
    intro x off s z inner F hx ho
    cases off with
    | zero =>
      simp only [Ev.subAt] at hx
      split at hx
      · rename_i he
        subst he
        cases hx
        exact subAt_whole _ x inner F ho
      · cases hx
    | succ off => rw [Ev.subAt] at hx; cases hx; all_goals (intros; contradiction)
  | str =>
    intro x off s z inner F hx ho
    cases off with
    | zero =>
      simp only [Ev.subAt] at hx
      split at hx
      · rename_i he
        subst he
        cases hx
        exact subAt_whole _ x inner F ho
      · cases hx
    | succ off => rw [Ev.subAt] at hx; cases hx; all_goals (intros; contradiction)
  | unit =>
    intro x off s z inner F hx ho
    cases off with
    | zero =>
      simp only [Ev.subAt] at hx
      split at hx
      · rename_i he
        subst he
        cases hx
        exact subAt_whole _ x inner F ho
      · cases hx
    | succ off => rw [Ev.subAt] at hx; cases hx; all_goals (intros; contradiction)
  | sl e =>
    intro x off s z inner F hx ho
    cases off with
    | zero =>
      simp only [Ev.subAt] at hx
      split at hx
      · rename_i he
        subst he
        cases hx
        exact subAt_whole _ x inner F ho
      · cases hx
    | succ off => rw [Ev.subAt] at hx; cases hx; all_goals (intros; contradiction)
end
end Go.Proofs.YtaflceohlijekaaGreat.Ev
namespace Go.Proofs.YtaflceohlijekaaGreat.Ev
theorem setSub_subAt : ∀ (e : Sh) (x : e.T) (off : Nat) (s : Sh) (y : s.T) (x1 : e.T), setSub e x off s y = some x1 -> ∃ z, Ev.subAt e x off s = some z := by
  have whole : ∀ (e : Sh) (x : e.T), Ev.subAt e x 0 e = some x := fun e x => by rw [Ev.subAt, dif_pos rfl]
  intro e
  induction e with
  | pair a b iha ihb =>
    intro x off s y x1 h
    cases off with
    | zero =>
      by_cases he : s = Sh.pair a b
      · subst he; exact ⟨_, whole _ _⟩
      · rw [setSub_pair0 _ _ _ _ _ he] at h
        rw [subAt_pair0 _ _ _ _ (fun e => he e.symm)]
        split at h
        · rename_i x2 h2; exact iha _ _ _ _ _ h2
        · cases h
    | succ off =>
      rw [setSub_succ] at h
      rw [Ev.subAt]
      cases hb : Nat.blt (off + 1) a.n with
      | true =>
        rw [hb] at h
        simp only [cond_true] at h ⊢
        split at h
        · rename_i x2 h2; exact iha _ _ _ _ _ h2
        · cases h
      | false =>
        rw [hb] at h
        simp only [cond_false] at h ⊢
        split at h
        · rename_i x2 h2; exact ihb _ _ _ _ _ h2
        · cases h
  | int kk =>
    intro x off s y x1 h
    cases off with
    | zero =>
      rw [setSub] at h
      split at h
      · rename_i he; subst he; exact ⟨_, whole _ _⟩
      · cases h
    | succ off => rw [setSub] at h; cases h; all_goals (intros; contradiction)
  | bool =>
    intro x off s y x1 h
    cases off with
    | zero =>
      rw [setSub] at h
      split at h
      · rename_i he; subst he; exact ⟨_, whole _ _⟩
      · cases h
    | succ off => rw [setSub] at h; cases h; all_goals (intros; contradiction)
  | str =>
    intro x off s y x1 h
    cases off with
    | zero =>
      rw [setSub] at h
      split at h
      · rename_i he; subst he; exact ⟨_, whole _ _⟩
      · cases h
    | succ off => rw [setSub] at h; cases h; all_goals (intros; contradiction)
  | unit =>
    intro x off s y x1 h
    cases off with
    | zero =>
      rw [setSub] at h
      split at h
      · rename_i he; subst he; exact ⟨_, whole _ _⟩
      · cases h
    | succ off => rw [setSub] at h; cases h; all_goals (intros; contradiction)
  | sl e =>
    intro x off s y x1 h
    cases off with
    | zero =>
      rw [setSub] at h
      split at h
      · rename_i he; subst he; exact ⟨_, whole _ _⟩
      · cases h
    | succ off => rw [setSub] at h; cases h; all_goals (intros; contradiction)
theorem updAt_some : ∀ (p : Path) (e : Sh) (xs : List e.T) (e' : Sh) (ys : List e'.T), descend p e xs e' = some ys -> ∀ zs, ∃ xs', updAt p e xs e' zs = some xs'
  | [], e, xs, e', ys, h, zs => by
    unfold descend castL at h
    split at h
    · rename_i he
      subst he
      exact ⟨zs, by simp [updAt, castL]⟩
    · cases h
  | (i, off) :: p, e, xs, e', ys, h, zs => by
    simp only [descend] at h
    split at h
    · rename_i e1 ys1 hl
      obtain ⟨xs1, h1⟩ := updAt_some p e1 ys1 e' ys h zs
      obtain ⟨x', h2, _⟩ := setLeaf_of e _ off e1 ys1 xs1 hl
      exact ⟨xs.set i x', by simp only [updAt, hl, h1, h2]⟩
    · cases h
theorem atUnit_own {st : St} {k ep : Nat} {p : Path} {e : Sh} {ep0 : Nat} {e0 : Sh} {xs0 : List e0.T} {xs : List e.T} (h : atUnit st k ep p e = some (ep0, ⟨e0, xs0, xs⟩)) :
    getA st.us k = some (.own ep0 e0 xs0) /\ content st.us k ep p e = some xs := by
  unfold atUnit at h
  unfold content
  split at h
  · rename_i ep1 e1 xs1 hk
    split at h
    · split at h
      · rename_i ys hys
        simp only [Option.some.injEq, Prod.mk.injEq, Sigma.mk.injEq] at h
        obtain ⟨rfl, rfl, h⟩ := h
        simp only [heq_eq_eq, Prod.mk.injEq] at h
        obtain ⟨rfl, rfl⟩ := h
        exact ⟨hk, by rw [hk]; exact hys⟩
      · cases h
    · rename_i q t
      cases hb : Nat.beq ep ep1 with
      | false => rw [hb] at h; cases h
      | true =>
        rw [hb] at h
        simp only [cond_true] at h
        split at h
        · rename_i ys hys
          simp only [Option.some.injEq, Prod.mk.injEq, Sigma.mk.injEq] at h
          obtain ⟨rfl, rfl, h⟩ := h
          simp only [heq_eq_eq, Prod.mk.injEq] at h
          obtain ⟨rfl, rfl⟩ := h
          refine ⟨hk, ?_⟩
          rw [hk]
          simp only [hb, cond_true]
          exact hys
        · cases h
  · cases h
theorem setCells_keptF (w : World) (b o : Nat) (vs : List Value) : KeptW (fun b' => b' = b) (fun _ _ => False) w (w.setCells b o vs) := by
  obtain ⟨h1, h2, h3⟩ := setCells_rest b vs o w
  exact ⟨h1, h2, h3, by rw [setCells_size]; exact Nat.le_refl _, fun k hk hne => .inl (setCells_other b vs o w k hne)⟩
section
variable {P : Program} {E : Env} {c : Cx} {st : St} {G G' : Gh} {w w' : World} {a : Act} {o : Oper} {K : Act -> World -> Prop} {Q : Exit -> Act -> World -> Prop} {tm : Nat -> Value}
variable {R : Type} {call : E.Call} {k : Eff -> Option R} {r : R} {pl : Plan E}
theorem Rel.elemPut (h : Rel c st G w tm) {k ep : Nat} {p : Path} {e : Sh} {i off : Nat} {v : Value} (hv : PtrRel c st.us st.vs G w (.elem k ep p e i off) v) {ep0 : Nat} {e0 : Sh} {xs0 : List e0.T} {xs : List e.T}
    (hat : atUnit st k ep p e = some (ep0, ⟨e0, xs0, xs⟩)) {s : Sh} {z : s.T} (hz : Ev.subAt e (xs.getD i e.dflt) off s = some z) :
    ∃ g o' F1 Fk, v = .pointer (some ⟨g, o', none⟩) /\ G.uf k g /\ (∃ inner, OwnL w (flat s z) inner F1 /\ inner.length = s.n /\ ∀ j u, inner[j]? = some u -> cellAt w g (o' + j) = some u) /\
      (∀ j, j < s.n -> w.frozen? ⟨g, o' + j, none⟩ = false /\ ∃ u, cellAt w g (o' + j) = some u) /\ (∀ b, G.uf k b ↔ F1 b \/ Fk b) /\ Fk g /\ Dj F1 Fk /\ (∃ cur et fr, w.heap[g]? = some (.cells cur et fr) /\ o' + s.n <= cur.size) /\
      ∀ (y : s.T), ∃ en xs', putElem k ep0 p e0 xs0 e xs i off s y = some en /\ en = (k, .own (ep0 + 1) e0 xs') /\
        ∀ w' news Fy, (∀ b, Fk b -> b ≠ g -> w'.heap[b]? = w.heap[b]?) -> (∃ cur cur' et fr, w.heap[g]? = some (.cells cur et fr) /\ w'.heap[g]? = some (.cells cur' et fr) /\ cur'.size = cur.size /\ (∀ j, j < o' \/ o' + s.n <= j -> cur'[j]? = cur[j]?) /\ ∀ j, j < s.n -> cur'[o' + j]? = news[j]?) ->
          OwnL w' (flat s y) news Fy -> Dj Fy Fk -> OwnL w' [.ext e0 xs'] [G.uv k] (fun b => Fy b \/ Fk b) := by
  obtain ⟨hk, hc⟩ := atUnit_own hat
  obtain ⟨ep1, e1, xs1, g, o1, cap, hk1, hp, hd, hi, rfl⟩ := h.elemAt hv hc
  rw [hk] at hk1
  cases hk1
  obtain ⟨Fl, Fr, q1, q2, q3, q4⟩ := hd.own (h.unit _ _ _ _ hk)
  obtain ⟨g', o2, cap', cur, et, fr, inner, Fi, Fj, b1, b2, b3, b4, b5, b6, b7, b8, b9, b10, b11, b12⟩ := q1.elem i hi
  cases b1
  rw [getD_at _ _ _ hi] at hz
  obtain ⟨c1, F1, F2, c2, c3, c4, c5⟩ := subAt_own e xs[i] off s z inner Fi hz b7
  have hcell : ∀ j u, inner[j]? = some u -> cellAt w g (o1 + i * e.n + j) = some u := by
    intro j u hj
    have hjl : j < inner.length := by
      rcases Nat.lt_or_ge j inner.length with q | q
      · exact q
      · simp [List.getElem?_eq_none q] at hj
    rw [cellAt_of b2, b6 j (by omega)]
    exact hj
  have hfoot : ∀ b, G.uf k b ↔ F1 b \/ (b = g \/ F2 b \/ Fj b \/ Fr b) := by
    intro b
    rw [q3, b11, c4]
    constructor
    · rintro ((p | (p | p) | p) | p)
      · exact .inr (.inl p)
      · exact .inl p
      · exact .inr (.inr (.inl p))
      · exact .inr (.inr (.inr (.inl p)))
      · exact .inr (.inr (.inr (.inr p)))
    · rintro (p | p | p | p | p)
      · exact .inl (.inr (.inl (.inl p)))
      · exact .inl (.inl p)
      · exact .inl (.inr (.inl (.inr p)))
      · exact .inl (.inr (.inr p))
      · exact .inr p
  refine ⟨g, o1 + i * e.n + off, F1, fun b => b = g \/ F2 b \/ Fj b \/ Fr b, rfl, (hfoot g).2 (.inr (.inl rfl)), ⟨_, c2, by rw [c2.length, flat_length], fun j u hj => ?_⟩, fun j hj => ⟨?_, ?_⟩, hfoot, .inl rfl, ?_, ⟨cur, et, fr, b2, by omega⟩, fun y => ?_⟩
  · rw [List.getElem?_take] at hj
    split at hj
    · rw [List.getElem?_drop] at hj
      have := hcell _ _ hj
      rwa [<- Nat.add_assoc] at this
    · cases hj
  · unfold World.frozen?
    rw [b2]
    have := b4 (o1 + i * e.n + off + j) (by omega)
    simp only [Bool.and_eq_false_imp, decide_eq_true_eq, decide_eq_false_iff_not]
    exact fun p q => this ⟨p, q⟩
  · have hlt : off + j < inner.length := by omega
    have := hcell (off + j) _ (List.getElem?_eq_getElem hlt)
    rw [<- Nat.add_assoc] at this
    exact ⟨_, this⟩
  · rintro b p (q | q | q | q)
    · subst q; exact b9 ((c4 _).2 (.inl p))
    · exact c3 b p q
    · exact b8 b ((c4 _).2 (.inl p)) q
    · exact q2 b ((b11 b).2 (.inr (.inl ((c4 b).2 (.inl p))))) q
  · obtain ⟨x1, d1, d2⟩ := c5 y
    have hupd : ∃ xs', updAt p e0 xs0 e (xs.set i x1) = some xs' := by
      exact updAt_some p _ _ _ _ hd.descend _
    obtain ⟨xs', hupd⟩ := hupd
    refine ⟨_, xs', by unfold putElem; rw [getD_at _ _ _ hi, d1]; simp only [hupd], rfl, fun w' news Fy hk' hobj hy hdj => ?_⟩
    obtain ⟨cur0, cur', et0, fr0, g1, g2, g3, g4, g5⟩ := hobj
    rw [b2] at g1
    cases g1
    have hnl : news.length = s.n := by rw [hy.length, flat_length]
    have hx1 := d2 w' news Fy (fun b hb => hk' b (.inr (.inl hb)) (fun e => b9 ((c4 _).2 (.inr (e ▸ hb))))) hy (fun b p q => hdj b p (.inr (.inl q)))
    have hin := b12 w' cur' x1 _ _ g2 g3 (fun j hj => g4 j (by omega)) (by simp; omega) (fun j hj => by
      rw [hnl]
      by_cases h1 : j < off
      · rw [g4 _ (by omega), b6 j hj, List.getElem?_append_left (by simp; omega), List.getElem?_take, if_pos h1]
      · by_cases h2 : j < off + s.n
        · have := g5 (j - off) (by omega)
          rw [show o1 + i * e.n + off + (j - off) = o1 + i * e.n + j by omega] at this
          rw [this, List.getElem?_append_right (by simp; omega)]
          simp only [List.length_take]
          rw [Nat.min_eq_left (by omega), List.getElem?_append_left (by omega)]
        · rw [g4 _ (by omega), b6 j hj, List.getElem?_append_right (by simp; omega)]
          simp only [List.length_take]
          rw [Nat.min_eq_left (by omega), List.getElem?_append_right (by omega), List.getElem?_drop, hnl]
          congr 1
          omega) (fun b hb => hk' b (.inr (.inr (.inl hb))) (fun e => b10 (e ▸ hb))) hx1 ?_ ?_
    · have hdjF : Dj (fun b => b = g \/ (Fy b \/ F2 b) \/ Fj b) Fr := by
        rintro b (p | (p | p) | p) q
        · exact q2 b ((b11 b).2 (.inl p)) q
        · exact hdj b p (.inr (.inr (.inr q)))
        · exact q2 b ((b11 b).2 (.inr (.inl ((c4 b).2 (.inr p))))) q
        · exact q2 b ((b11 b).2 (.inr (.inr p))) q
      obtain ⟨xs2, e1', _, e3, e4⟩ := q4 w' (xs.set i x1) _ (fun b hb => hk' b (.inr (.inr (.inr hb))) (fun e => q2 b ((b11 b).2 (.inl e)) hb)) hin hdjF
      · rw [hupd] at e1'
        cases e1'
        exact e3.eqv fun b => by
          constructor
          · rintro ((p | (p | p) | p) | p)
            · exact .inr (.inl p)
            · exact .inl p
            · exact .inr (.inr (.inl p))
            · exact .inr (.inr (.inr (.inl p)))
            · exact .inr (.inr (.inr (.inr p)))
          · rintro (p | p | p | p | p)
            · exact .inl (.inr (.inl (.inl p)))
            · exact .inl (.inl p)
            · exact .inl (.inr (.inl (.inr p)))
            · exact .inl (.inr (.inr p))
            · exact .inr p
    · rintro b (p | p) q
      · exact hdj b p (.inr (.inr (.inl q)))
      · exact b8 b ((c4 b).2 (.inr p)) q
    · rintro (p | p)
      · exact hdj g p (.inl rfl)
      · exact b9 ((c4 g).2 (.inr p))
theorem Rel.swapUnit (h : Rel c st G w tm) {k ep0 : Nat} {e0 : Sh} {xs0 xs' : List e0.T} (hk : getA st.us k = some (.own ep0 e0 xs0)) {nu : List (Nat × UE)} {Fy : Nat -> Prop} (hg : Given G ((k, .gone) :: st.us) nu Fy)
    {w' : World} {Fw F' : Nat -> Prop} (hkept : KeptW Fw (fun _ _ => False) w w') (hFw : ∀ b, b < w.heap.size -> Fw b -> G.uf k b \/ ∃ i ep e xs, getA nu i = some .gone /\ getA st.us i = some (.own ep e xs) /\ G.uf i b)
    (hown : OwnL w' [.ext e0 xs'] [G.uv k] F') (hF' : ∀ b, F' b -> G.uf k b \/ (∃ i ep e xs, getA nu i = some .gone /\ getA st.us i = some (.own ep e xs) /\ G.uf i b) \/ w.heap.size <= b) :
    ∃ G', G'.va = G.va /\ G'.uv = G.uv /\ Rel c ⟨st.sl, st.vs, (k, .own (ep0 + 1) e0 xs') :: (nu ++ st.us)⟩ G' w' tm /\ UCompat st.us ((k, .own (ep0 + 1) e0 xs') :: (nu ++ st.us)) G G' w w' /\ VCompat st.vs st.vs G G' := by
  have hgone : ∀ i en, getA nu i = some en -> en = .gone /\ i ≠ k := by
    intro i en hi
    obtain ⟨g1, ep, e, xs, g2⟩ := hg.gone i en hi
    refine ⟨g1, ?_⟩
    rintro rfl
    rw [getA_cons, if_pos rfl] at g2
    cases g2
  let G' : Gh := { G with uf := fun i => if i = k then F' else G.uf i }
  have hus : ∀ i, getA ((k, UE.own (ep0 + 1) e0 xs') :: (nu ++ st.us)) i = if k = i then some (UE.own (ep0 + 1) e0 xs') else match getA nu i with | some v => some v | none => getA st.us i := by
    intro i
    rw [getA_cons, getA_append]
    split
    · rfl
    · cases getA nu i <;> rfl
  refine ⟨G', rfl, rfl, h.upd (fun i => i = k \/ getA nu i = some .gone) (fun _ => False) (us' := (k, .own (ep0 + 1) e0 xs') :: (nu ++ st.us)) (vs' := st.vs) (G' := G') hkept ?_ (fun _ _ _ q => q.elim) ?_ (fun _ _ => ⟨rfl, rfl⟩) ?_ ?_ ?_
    (fun _ _ q => q.elim) (fun _ _ _ _ q => q.elim) (fun _ _ _ _ _ _ _ q => q.elim) (fun _ _ q => q.elim)⟩
  · intro b hb hf
    rcases hFw b hb hf with p | ⟨i, ep, e, xs, p1, p2, p3⟩
    · exact ⟨k, _, _, _, .inl rfl, hk, p⟩
    · exact ⟨i, ep, e, xs, .inr p1, p2, p3⟩
  · intro i hi
    have hik : i ≠ k := fun e => hi (.inl e)
    refine ⟨?_, rfl, by simp [G', hik]⟩
    rw [hus, if_neg (fun e => hik e.symm)]
    cases hn : getA nu i with
    | none => rfl
    | some en => exact absurd (.inr (by rw [hn, (hgone i en hn).1])) hi
  · intro i ep' e xs hi hget
    rw [hus] at hget
    split at hget
    · rename_i hki
      subst hki
      cases hget
      refine ⟨by simpa [G'] using hown, fun b hb => ?_⟩
      rcases hF' b (by simpa [G'] using hb) with p | ⟨i, ep, e, xs, p1, p2, p3⟩ | p
      · exact .inl ⟨k, _, _, _, .inl rfl, hk, p⟩
      · exact .inl ⟨i, ep, e, xs, .inr p1, p2, p3⟩
      · exact .inr p
    · rename_i hki
      rcases hi with rfl | hi
      · exact absurd rfl hki
      · rw [hi] at hget; cases hget
  · intro i1 i2 ep1 e1 xs1 ep2 e2 xs2 h1 h2 g1 g2 hne
    have only : ∀ i ep e xs, (i = k \/ getA nu i = some .gone) -> getA ((k, UE.own (ep0 + 1) e0 xs') :: (nu ++ st.us)) i = some (.own ep e xs) -> i = k := by
      intro i ep e xs hi hget
      rcases hi with rfl | hi
      · rfl
      · rw [hus, if_neg (fun e => (hgone i _ hi).2 e.symm), hi] at hget; cases hget
    exact absurd ((only _ _ _ _ h1 g1).trans (only _ _ _ _ h2 g2).symm) hne
  · intro i en hi hget
    rcases hi with rfl | hi
    · rw [hk] at hget
      cases hget
      exact ⟨_, by rw [hus, if_pos rfl], fun ep' e' xs2 he => by cases he; exact ⟨_, _, rfl, rfl, Nat.lt_succ_self _⟩⟩
    · refine ⟨.gone, ?_, fun _ _ _ he => by cases he⟩
      rw [hus, if_neg (fun e => (hgone i _ hi).2 e.symm), hi]
theorem snd_store (h : Rel c st G w (tmOf a)) (hd : ∀ d, o.dst = some d -> d < a.tmps.size /\ c.pin d = none) (hk : ∀ e, k e = some r -> After c a K (e.apply o.dst st))
    {t : Nat} {x y : Operand} (hop : o.op = .store t x y) (ht : TyOk P E t) (hp : pre E o st = some pl) (hr : runPlan E call k pl = some r) : o.wp P a w K Q := by
  simp only [pre, hop, preStore] at hp
  split at hp
  · rename_i p g ls hx hy
    split at hp
    · rename_i hl
      obtain ⟨cs, hcs, hls⟩ := VLs.cells (show VLs c st.us G w g ls (a.eval y) from operandT_rel h hy)
      have hv := operand_rel h hx
      have hcl : cs.length = (E.ty t).sh.n := by rw [<- hl]; exact hls.length
      split at hp
      · rename_i r' off
        split at hp
        · rename_i l hr'
          split at hp
          · rename_i hle
            cases hp
            obtain ⟨_, hke⟩ := runAlts_one hr
            obtain ⟨l', q1, q2⟩ := hv
            rw [hr'] at q1
            cases q1
            obtain ⟨s1, s2, _, _⟩ := h.storeVar (P := P) hr' hle hls
            refine wp_skipped (e := ⟨.u, [(r', setRange off l ls)], []⟩) ?_ rfl s2 hd (hk _ hke)
            simp [execOp, hop, q2, Instr.storeAt, Instr.sureAddr, storeVar, ht.size, hcs, hcl, s1]
          · cases hp
        · cases hp
      · rename_i k0 ep p e i off
        split at hp
        · rename_i ep0 e0 xs0 xs hat
          split at hp
          · rename_i yv nu hgive
            split at hp
            · rename_i en hen
              cases hp
              obtain ⟨_, hke⟩ := runAlts_one hr
              obtain ⟨hk0, _⟩ := atUnit_own hat
              have hset : ∃ z, Ev.subAt e (xs.getD i e.dflt) off (E.ty t).sh = some z := by
                unfold putElem at hen
                split at hen
                · rename_i x1 hx1
                  exact setSub_subAt _ _ _ _ _ _ hx1
                · cases hen
              obtain ⟨z, hz⟩ := hset
              obtain ⟨g0, o0, F1, Fk, m1, m2, m3, m4, m5, m6, m7, ⟨cur, et, fr, m8a, m8b⟩, m8⟩ := h.elemPut hv hat hz
              obtain ⟨en', xs', m9, rfl, m10⟩ := m8 yv
              rw [hen] at m9
              cases m9
              have hsub : ∀ k1 ep e xs, getA ((k0, UE.gone) :: st.us) k1 = some (.own ep e xs) -> k1 ≠ k0 /\ getA st.us k1 = some (.own ep e xs) := by
                intro k1 ep e xs hk1
                rw [getA_cons] at hk1
                split at hk1
                · cases hk1
                · rename_i hne
                  exact ⟨fun e => hne e.symm, hk1⟩
              obtain ⟨v1, v2, Fy, n1, n2, n3, n4, n5⟩ := give_own h (E.ty t).sh ((k0, .gone) :: st.us) ls yv nu [] cs (fun k1 ep e xs hk1 => (hsub _ _ _ _ hk1).2) hgive hls
              have hv2 : v2 = [] := by have := n3.length; simpa using this
              subst hv2
              rw [List.append_nil] at n1
              subst n1
              have hFy : ∀ b, Fy b -> ¬ G.uf k0 b := by
                intro b hb hb2
                obtain ⟨k1, ep1, e1, xs1, p1, p2, p3⟩ := n5.foot b hb
                obtain ⟨p4, p5⟩ := hsub _ _ _ _ p2
                exact h.dUU k1 k0 _ _ _ _ _ _ p5 hk0 p4 b p3 hb2
              have hcell : ∀ j, j < cs.length -> ∃ u, cellAt w g0 (o0 + j) = some u := fun j hj => (m4 j (by omega)).2
              have hfr : ∀ b, b ≠ g0 -> (w.setCells g0 o0 cs).heap[b]? = w.heap[b]? := fun b hb => setCells_other _ _ _ _ _ hb
              have hobj : ∃ cur cur' et fr, w.heap[g0]? = some (.cells cur et fr) /\ (w.setCells g0 o0 cs).heap[g0]? = some (.cells cur' et fr) /\ cur'.size = cur.size /\ (∀ j, j < o0 \/ o0 + (E.ty t).sh.n <= j -> cur'[j]? = cur[j]?) /\ ∀ j, j < (E.ty t).sh.n -> cur'[o0 + j]? = cs[j]? := by
                obtain ⟨cur', z1, z2, z3, z4⟩ := setCells_obj g0 cs o0 w cur et fr m8a
                exact ⟨cur, cur', et, fr, m8a, z1, z2, fun j hj => z3 j (by omega), fun j hj => z4 (by omega) j (by omega)⟩
              have hown := m10 (w.setCells g0 o0 cs) cs Fy (fun b _ hb => hfr b hb) hobj (n4.frame (fun b hb => hfr b (fun e => hFy b hb (e ▸ m2)))) (fun b p q => hFy b p ((m5 b).2 (.inr q)))
              obtain ⟨G', e1, e2, hrel, _, _⟩ := h.swapUnit hk0 n5 (setCells_keptF w g0 o0 cs) (fun b _ hb => .inl (hb ▸ m2)) hown (fun b hb => by
                rcases hb with hb | hb
                · obtain ⟨k1, ep1, e1, xs1, p1, p2, p3⟩ := n5.foot b hb
                  exact .inr (.inl ⟨k1, ep1, e1, xs1, p1, (hsub _ _ _ _ p2).2, p3⟩)
                · exact .inl ((m5 b).2 (.inr hb)))
              refine wp_skipped (e := ⟨.u, [], (k0, .own (ep0 + 1) e0 xs') :: nu⟩) ?_ rfl hrel hd (hk _ hke)
              have hrun := run_storeCells_cells (P := P) g0 o0 cs 0 w (fun j hj => by
                obtain ⟨u, hu⟩ := hcell j hj
                exact Option.isSome_iff_exists.2 ⟨u, hu⟩) (fun j hj => (m4 j (by omega)).1) hls.one
              simp [execOp, hop, m1, Instr.storeAt, Instr.sureAddr, storeVar, ht.size, hcs, hcl, hrun]
            · cases hp
          · cases hp
        · cases hp
      · cases hp
    · cases hp
  · cases hp
end
end Go.Proofs.YtaflceohlijekaaGreat.Ev
