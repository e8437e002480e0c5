/- Sizes, copies and comparisons of nodes. -/
import Derived.Test.YtogffkekgfkhkaaZvCx1
import Derived.Test.YtogffkekgfkhkaaZvCx7
import Derived.Test.YtogffkekgfkhkaaZvCx8
import Derived.Test.YtogffkekgfkhkaaZvCx9
import Derived.Test.YtogffkekgfkhkaaZvK
namespace Go.Proofs.Ytogffkekgfkhkaa.C
open Go.RowKit Go.Proofs.YtogffkekgfkhkaaW.PrintWords Go.Proofs.YtogffkekgfkhkaaW.PrintLast Go.Proofs.YtogffkekgfkhkaaW.PrintMore
set_option linter.unusedVariables false
set_option linter.unusedSimpArgs false
theorem wrapN {i n : Nat} (h : i < n) (hn : n ≤ 9223372036854775807) : wrap64 ((i : Int) + 1) = ((i + 1 : Nat) : Int) := by
  unfold wrap64; omega
theorem Ev.up {ρ : Type} {F : Nat → Nat → Option ρ} {r : ρ} (n : Nat) (h : ∀ i, i < n → Ev (fun k => F k (i + 1)) r → Ev (fun k => F k i) r) (e : Ev (fun k => F k n) r) : ∀ i, i ≤ n → Ev (fun k => F k i) r := by
  have : ∀ d i, n - i = d → i ≤ n → Ev (fun k => F k i) r := by
    intro d
    induction d with
    | zero => intro i hd hi; obtain rfl : i = n := by omega
              exact e
    | succ d ih => intro i hd hi; exact h i (by omega) (ih (i + 1) (by omega) (by omega))
  exact fun i hi => this _ i rfl hi
theorem getD_nat {α : Type} (l : List α) (d : α) (i : Nat) (h : i < l.length) : l.getD (i : Int).toNat d = l[i] := by
  simp [List.getD_eq_getElem?_getD, List.getElem?_eq_getElem h]
theorem to_loop {α β τ : Type} {z : β} (L : Nat → List α → List β → Int → Option (List β)) (g : Nat → α → Option τ) (c : τ → β) (t : α → τ) (d : α) (xs : List α) (hn : xs.length ≤ 1073741824)
    (hL : ∀ k x acc i, L (k + 1) x acc i = if i < (x.length : Int) then (if 0 ≤ i then ((g k (x.getD i.toNat d)).bind fun b => (if i < (acc.length : Int) then L k x (acc.set i.toNat (c b)) (wrap64 (i + 1)) else none)) else none) else some acc)
    (hg : ∀ a ∈ xs, Ev (fun k => g k a) (t a)) : Ev (fun k => L k xs (List.replicate xs.length z) 0) (xs.map fun a => c (t a)) := by
  have key := Ev.up (F := fun k i => L k xs ((xs.take i).map (fun a => c (t a)) ++ List.replicate (xs.length - i) z) (i : Int)) (r := xs.map fun a => c (t a)) xs.length (fun i hi e => ?_) ?_ 0 (Nat.zero_le _)
  · simpa using key
  · refine Ev.step (f := fun k => (g k xs[i]).bind fun b => L k xs (((xs.take i).map (fun a => c (t a)) ++ List.replicate (xs.length - i) z).set i (c b)) ((i + 1 : Nat) : Int)) (fun k => ?_) ?_
    · rw [hL, if_pos (by omega), if_pos (by omega), getD_nat _ _ _ hi]
      congr 1
      funext b
      rw [if_pos (by simp; omega), wrapN hi (by omega), Int.toNat_natCast]
    · refine Ev.bind (f := fun k b => L k xs (((xs.take i).map (fun a => c (t a)) ++ List.replicate (xs.length - i) z).set i (c b)) ((i + 1 : Nat) : Int)) (hg _ (List.getElem_mem hi)) ?_
      have hs : ((xs.take i).map (fun a => c (t a)) ++ List.replicate (xs.length - i) z).set i (c (t xs[i])) = (xs.take (i + 1)).map (fun a => c (t a)) ++ List.replicate (xs.length - (i + 1)) z := by
        have hl : ((xs.take i).map (fun a => c (t a))).length = i := by simp; omega
        rw [show xs.length - i = (xs.length - (i + 1)) + 1 by omega, List.replicate_succ, List.set_append_right _ _ (by omega), hl, Nat.sub_self, List.take_succ_eq_append_getElem hi]
        simp only [List.set_cons_zero, List.map_append, List.map_cons, List.map_nil, List.append_assoc, List.singleton_append]
      rw [hs]
      exact e
  · refine Ev.step (f := fun _ => some (xs.map fun a => c (t a))) (fun k => ?_) (Ev.now _)
    rw [hL, if_neg (by omega)]
    simp
theorem eq_loop {α : Type} (L : Nat → List α → List α → Int → Option Bool) (g : Nat → α → α → Option Bool) (d : α) (xs : List α) (hn : xs.length ≤ 1073741824)
    (hL : ∀ k x y i, L (k + 1) x y i = if i < (x.length : Int) then (if 0 ≤ i then (if i < (y.length : Int) then ((g k (x.getD i.toNat d) (y.getD i.toNat d)).bind fun t => (if t = true then L k x y (wrap64 (i + 1)) else some false)) else none) else none) else some true)
    (hg : ∀ a ∈ xs, Ev (fun k => g k a a) true) : Ev (fun k => L k xs xs 0) true := by
  have key := Ev.up (F := fun k i => L k xs xs (i : Int)) (r := true) xs.length (fun i hi e => ?_) ?_ 0 (Nat.zero_le _)
  · exact key
  · refine Ev.step (f := fun k => (g k xs[i] xs[i]).bind fun t => (if t = true then L k xs xs ((i + 1 : Nat) : Int) else some false)) (fun k => ?_) ?_
    · rw [hL, if_pos (by omega), if_pos (by omega), if_pos (by omega), getD_nat _ _ _ hi, wrapN hi (by omega)]
    · refine Ev.bind (f := fun k t => (if t = true then L k xs xs ((i + 1 : Nat) : Int) else some false)) (hg _ (List.getElem_mem hi)) ?_
      exact Ev.congr (fun k => if_pos rfl) e
  · refine Ev.step (f := fun _ => some true) (fun k => ?_) (Ev.now _)
    rw [hL, if_neg (by omega)]
theorem sz_loop {α : Type} (L : Nat → List α → Int → Int → Option Int) (g : Nat → α → Int → Option Int) (d : α) (s : α → Nat) (xs : List α) (hn : xs.length ≤ 9223372036854775807)
    (hL : ∀ k x a i, L (k + 1) x a i = if i < (x.length : Int) then (if 0 ≤ i then ((g k (x.getD i.toNat d) a).bind fun t => (if t < 0 then some (-1) else L k x t (wrap64 (i + 1)))) else none) else some a)
    (hg : ∀ y ∈ xs, ∀ a : Int, 0 ≤ a → a ≤ 1048576 → Ev (fun k => g k y a) (if (s y : Int) ≤ a then a - s y else -1)) :
    ∀ a : Int, 0 ≤ a → a ≤ 1048576 → Ev (fun k => L k xs a 0) (if (((xs.map s).sum : Nat) : Int) ≤ a then a - ((xs.map s).sum : Nat) else -1) := by
  have key : ∀ m i, xs.length - i = m → i ≤ xs.length → ∀ a : Int, 0 ≤ a → a ≤ 1048576 → Ev (fun k => L k xs a (i : Int)) (if (((((xs.drop i).map s).sum : Nat)) : Int) ≤ a then a - (((xs.drop i).map s).sum : Nat) else -1) := by
    intro m
    induction m with
    | zero =>
      intro i hm hi a h0 h1
      have : xs.drop i = [] := by simp; omega
      rw [this]
      simp only [List.map_nil, List.sum_nil]
      rw [if_pos (by omega)]
      refine Ev.step (f := fun _ => some (a - ((0 : Nat) : Int))) (fun k => ?_) (Ev.now _)
      rw [hL, if_neg (by omega)]
      simp
    | succ m ih =>
      intro i hm hi a h0 h1
      have hlt : i < xs.length := by omega
      have hd : xs.drop i = xs[i] :: xs.drop (i + 1) := List.drop_eq_getElem_cons hlt
      rw [hd]
      simp only [List.map_cons, List.sum_cons]
      have e1 := hg xs[i] (List.getElem_mem hlt) a h0 h1
      refine Ev.step (f := fun k => (g k xs[i] a).bind fun t => (if t < 0 then some (-1) else L k xs t ((i + 1 : Nat) : Int))) (fun k => ?_) ?_
      · rw [hL, if_pos (by omega), if_pos (by omega), getD_nat _ _ _ hlt, wrapN hlt (by omega)]
      · refine Ev.bind (f := fun k t => (if t < 0 then some (-1) else L k xs t ((i + 1 : Nat) : Int))) e1 ?_
        by_cases c : (s xs[i] : Int) ≤ a
        · rw [if_pos c]
          refine Ev.congr (fun k => if_neg (by omega)) ?_
          have := ih (i + 1) (by omega) (by omega) (a - s xs[i]) (by omega) (by omega)
          by_cases c2 : ((((xs.drop (i + 1)).map s).sum : Nat) : Int) ≤ a - s xs[i]
          · rw [if_pos c2] at this
            rw [if_pos (by omega)]
            rw [show a - ((s xs[i] + ((xs.drop (i + 1)).map s).sum : Nat) : Int) = a - s xs[i] - (((xs.drop (i + 1)).map s).sum : Nat) by omega]
            exact this
          · rw [if_neg c2] at this
            rw [if_neg (by omega)]
            exact this
        · rw [if_neg c, if_neg (by omega)]
          exact Ev.congr (fun k => if_pos (by omega)) (Ev.now _)
  intro a h0 h1
  have := key xs.length 0 (by omega) (by omega) a h0 h1
  simpa using this
/-- A size by the length alone. -/
theorem sz_len {n : Nat} {a : Int} (hn : n ≤ 9223372036854775807) (h0 : 0 ≤ a) (h1 : a ≤ 1048576) : wrap64 (a - (n : Int)) = a - n := by
  unfold wrap64; omega
theorem szByteS_eq (l : List Int) (h : l.length ≤ maxLen) (a : Int) (h0 : 0 ≤ a) (h1 : a ≤ 1048576) : laws_szByteS.f l a = some (if (l.length : Int) ≤ a then a - l.length else -1) := by
  unfold laws_szByteS.f
  rw [sz_len (by unfold maxLen at h; omega) h0 h1]
  by_cases c : (l.length : Int) ≤ a
  · rw [if_pos c, if_neg (by omega)]
  · rw [if_neg c, if_pos (by omega)]
def sSS (l : List (List Int)) : Nat := l.length + (l.map List.length).sum
theorem szByteSS_ev (l : List (List Int)) (h : l.length ≤ maxLen) (h2 : ∀ s ∈ l, s.length ≤ maxLen) (a : Int) (h0 : 0 ≤ a) (h1 : a ≤ 1048576) : Ev (fun k => laws_szByteSS.f k l a) (if (sSS l : Int) ≤ a then a - sSS l else -1) := by
  unfold maxLen at h
  have e1 := sz_loop laws_szByteSS.l0 (fun _ y a => laws_szByteS.f y a) [] List.length l (by omega) (fun k x a i => rfl) (fun y hy a h0 h1 => Ev.congr (f := fun _ => some (if (y.length : Int) ≤ a then a - y.length else -1)) (fun _ => szByteS_eq y (h2 y hy) a h0 h1) (Ev.now _))
  unfold sSS
  by_cases c : (l.length : Int) ≤ a
  · have f1 := e1 (a - l.length) (by omega) (by omega)
    refine Ev.congr (f := fun k => laws_szByteSS.l0 k l (a - l.length) 0) (fun k => ?_) ?_
    · unfold laws_szByteSS.f
      rw [sz_len (by omega) h0 h1, if_neg (by omega)]
    · by_cases c2 : (((l.map List.length).sum : Nat) : Int) ≤ a - l.length
      · rw [if_pos c2] at f1
        rw [if_pos (by omega), show a - ((l.length + (l.map List.length).sum : Nat) : Int) = a - l.length - ((l.map List.length).sum : Nat) by omega]
        exact f1
      · rw [if_neg c2] at f1
        rw [if_neg (by omega)]
        exact f1
  · rw [if_neg (by omega)]
    refine Ev.congr (f := fun _ => some (-1)) (fun k => ?_) (Ev.now _)
    unfold laws_szByteSS.f
    rw [sz_len (by omega) h0 h1, if_pos (by omega)]
def sN (x : S33) : Nat := x.f2.length + sSS x.f3
theorem szNode_ev (x : S33) (h2 : x.f2.length ≤ maxLen) (h3 : x.f3.length ≤ maxLen) (h4 : ∀ s ∈ x.f3, s.length ≤ maxLen) (a : Int) (h0 : 0 ≤ a) (h1 : a ≤ 1048576) : Ev (fun k => laws_szNode.f k x.f0 x.f1 x.f2 x.f3 x.f4 a) (if (sN x : Int) ≤ a then a - sN x else -1) := by
  unfold sN
  by_cases c : (x.f2.length : Int) ≤ a
  · have f1 := szByteSS_ev x.f3 h3 h4 (a - x.f2.length) (by omega) (by omega)
    refine Ev.congr (f := fun k => (laws_szByteSS.f k x.f3 (a - x.f2.length)).bind fun t => (if t < 0 then some (-1) else some t)) (fun k => ?_) ?_
    · unfold laws_szNode.f
      rw [szByteS_eq _ h2 a h0 h1, if_pos c]
      simp only [Option.bind_some]
      rw [if_neg (by omega)]
    · by_cases c2 : (sSS x.f3 : Int) ≤ a - x.f2.length
      · rw [if_pos c2] at f1
        rw [if_pos (by omega), show a - ((x.f2.length + sSS x.f3 : Nat) : Int) = a - x.f2.length - (sSS x.f3 : Nat) by omega]
        exact Ev.bind (f := fun _ t => (if t < 0 then some (-1) else some t)) f1 (Ev.congr (fun k => if_neg (by omega)) (Ev.now _))
      · rw [if_neg c2] at f1
        rw [if_neg (by omega)]
        exact Ev.bind (f := fun _ t => (if t < 0 then some (-1) else some t)) f1 (Ev.congr (fun k => if_pos (by omega)) (Ev.now _))
  · rw [if_neg (by omega)]
    refine Ev.congr (f := fun _ => some (-1)) (fun k => ?_) (Ev.now _)
    unfold laws_szNode.f
    rw [szByteS_eq _ h2 a h0 h1, if_neg c]
    simp only [Option.bind_some]
    rw [if_pos (by omega)]
def sizeN (l : List S33) : Nat := l.length + (l.map sN).sum
theorem szNodeS_ev (l : List S33) (h : l.length ≤ maxLen) (h2 : ∀ x ∈ l, x.f2.length ≤ maxLen) (h3 : ∀ x ∈ l, x.f3.length ≤ maxLen) (h4 : ∀ x ∈ l, ∀ s ∈ x.f3, s.length ≤ maxLen) :
    ∃ t, Ev (fun k => laws_szNodeS.f k l 1048576) t ∧ (t < 0 ∨ sizeN l ≤ 1048576) := by
  unfold maxLen at h
  have e1 := sz_loop laws_szNodeS.l0 (fun k y a => laws_szNode.f k y.f0 y.f1 y.f2 y.f3 y.f4 a) z33 sN l (by omega) (fun k x a i => rfl) (fun y hy a h0 h1 => szNode_ev y (h2 y hy) (h3 y hy) (h4 y hy) a h0 h1)
  by_cases c : (l.length : Int) ≤ 1048576
  · have f1 := e1 (1048576 - l.length) (by omega) (by omega)
    have e2 : ∀ t, Ev (fun k => laws_szNodeS.l0 k l (1048576 - l.length) 0) t → Ev (fun k => laws_szNodeS.f k l 1048576) t := fun t ht => Ev.congr (fun k => by
      unfold laws_szNodeS.f
      rw [sz_len (by omega) (by omega) (by omega), if_neg (by omega)]) ht
    by_cases c2 : (((l.map sN).sum : Nat) : Int) ≤ 1048576 - l.length
    · rw [if_pos c2] at f1
      exact ⟨_, e2 _ f1, .inr (by unfold sizeN; omega)⟩
    · rw [if_neg c2] at f1
      exact ⟨_, e2 _ f1, .inl (by omega)⟩
  · refine ⟨-1, Ev.congr (f := fun _ => some (-1)) (fun k => ?_) (Ev.now _), .inl (by omega)⟩
    unfold laws_szNodeS.f
    rw [sz_len (by omega) (by omega) (by omega), if_pos (by omega)]
theorem le_sum {α : Type} (f : α → Nat) : ∀ (l : List α) (x : α), x ∈ l → f x ≤ (l.map f).sum
  | y :: l, x, h => by
    simp only [List.map_cons, List.sum_cons]
    rcases List.mem_cons.1 h with rfl | h
    · omega
    · have := le_sum f l x h; omega
structure Small (x : S33) : Prop where
  t : x.f2.length ≤ 1048576
  n : x.f3.length ≤ 1048576
  s : ∀ s ∈ x.f3, s.length ≤ 1048576
theorem small_of (l : List S33) (h : sizeN l ≤ 1048576) (x : S33) (hx : x ∈ l) : Small x := by
  have h1 := le_sum sN l x hx
  have e : sN x = x.f2.length + (x.f3.length + (x.f3.map List.length).sum) := rfl
  unfold sizeN at h
  exact ⟨by omega, by omega, fun s hs => by have := le_sum List.length x.f3 s hs; omega⟩
def cN (x : S33) : S34 := ⟨x.f0, x.f1, x.f2, x.f3, x.f4⟩
theorem mapid {α : Type} (l : List α) : l.map (fun a => a) = l := List.map_id' l
theorem toByteS_ev (l : List Int) (h : l.length ≤ 1048576) : Ev (fun k => laws_toByteS.f k l) l := by
  have e := to_loop (z := (0 : Int)) laws_toByteS.l0 (fun _ a => some a) (fun a => a) (fun a => a) 0 l (by omega) (fun k x acc i => by rfl) (fun a _ => Ev.now _)
  rw [mapid] at e
  refine Ev.congr (fun k => ?_) e
  unfold laws_toByteS.f
  rw [if_pos (by omega), if_pos (by omega), Int.toNat_natCast]
theorem toByteSS_ev (l : List (List Int)) (h : l.length ≤ 1048576) (h2 : ∀ s ∈ l, s.length ≤ 1048576) : Ev (fun k => laws_toByteSS.f k l) l := by
  have e := to_loop (z := ([] : List Int)) laws_toByteSS.l0 (fun k a => laws_toByteS.f k a) (fun a => a) (fun a => a) [] l (by omega) (fun k x acc i => by rfl) (fun a ha => toByteS_ev a (h2 a ha))
  rw [mapid] at e
  refine Ev.congr (fun k => ?_) e
  unfold laws_toByteSS.f
  rw [if_pos (by omega), if_pos (by omega), Int.toNat_natCast]
theorem toNode_ev (x : S33) (h : Small x) : Ev (fun k => laws_toNode.f k x.f0 x.f1 x.f2 x.f3 x.f4) (x.f0, x.f1, x.f2, x.f3, x.f4) := by
  unfold laws_toNode.f
  refine Ev.bind (f := fun k t => (laws_toByteSS.f k x.f3).bind fun u => some (x.f0, x.f1, t, u, x.f4)) (toByteS_ev _ h.t) ?_
  exact Ev.bind (f := fun _ u => some (x.f0, x.f1, x.f2, u, x.f4)) (toByteSS_ev _ h.n h.s) (Ev.now _)
theorem toNodeS_ev (l : List S33) (h : l.length ≤ 1048576) (h2 : ∀ x ∈ l, Small x) : Ev (fun k => laws_toNodeS.f k l) (l.map cN) := by
  have e := to_loop (z := z34) laws_toNodeS.l0 (fun k a => laws_toNode.f k a.f0 a.f1 a.f2 a.f3 a.f4) (fun b => ⟨b.1, b.2.1, b.2.2.1, b.2.2.2.1, b.2.2.2.2⟩) (fun a => (a.f0, a.f1, a.f2, a.f3, a.f4)) z33 l (by omega) (fun k x acc i => rfl) (fun a ha => toNode_ev a (h2 a ha))
  refine Ev.congr (fun k => ?_) e
  unfold laws_toNodeS.f
  rw [if_pos (by omega), if_pos (by omega), Int.toNat_natCast]
theorem eqByteS_ev (l : List Int) (h : l.length ≤ 1048576) : Ev (fun k => laws_eqByteS.f k l l) true := by
  have e := eq_loop laws_eqByteS.l0 (fun _ a b => some (decide (a = b))) 0 l (by omega) (fun k x y i => by
    rw [laws_eqByteS.l0]
    simp only [Option.bind_some, decide_eq_true_eq]
    rfl) (fun a _ => by simp only [decide_true]; exact Ev.now _)
  refine Ev.congr (fun k => ?_) e
  unfold laws_eqByteS.f
  rw [if_pos rfl]
theorem eqByteSS_ev (l : List (List Int)) (h : l.length ≤ 1048576) (h2 : ∀ s ∈ l, s.length ≤ 1048576) : Ev (fun k => laws_eqByteSS.f k l l) true := by
  have e := eq_loop laws_eqByteSS.l0 (fun k a b => laws_eqByteS.f k a b) [] l (by omega) (fun k x y i => rfl) (fun a ha => eqByteS_ev a (h2 a ha))
  refine Ev.congr (fun k => ?_) e
  unfold laws_eqByteSS.f
  rw [if_pos rfl]
theorem eqNode_ev (x : S34) (h : x.f2.length ≤ 1048576) (h1 : x.f3.length ≤ 1048576) (h2 : ∀ s ∈ x.f3, s.length ≤ 1048576) : Ev (fun k => laws_eqNode.f k x.f0 x.f1 x.f2 x.f3 x.f4 x.f0 x.f1 x.f2 x.f3 x.f4) true := by
  unfold laws_eqNode.f
  refine Ev.congr (fun k => (if_pos rfl).trans (if_pos rfl)) ?_
  refine Ev.bind (f := fun k t => (if t = true then ((laws_eqByteSS.f k x.f3 x.f3).bind fun t207 => (if t207 = true then (if x.f4 = x.f4 then (some true) else (some false)) else (some false))) else (some false))) (eqByteS_ev _ h) ?_
  refine Ev.congr (fun k => if_pos rfl) ?_
  exact Ev.bind (f := fun k t207 => (if t207 = true then (if x.f4 = x.f4 then (some true) else (some false)) else (some false))) (eqByteSS_ev _ h1 h2) (Ev.congr (fun k => (if_pos rfl).trans (if_pos rfl)) (Ev.now _))
theorem eqNodeS_ev (l : List S34) (h : l.length ≤ 1048576) (h2 : ∀ x ∈ l, x.f2.length ≤ 1048576 ∧ x.f3.length ≤ 1048576 ∧ ∀ s ∈ x.f3, s.length ≤ 1048576) : Ev (fun k => laws_eqNodeS.f k l l) true := by
  have e := eq_loop laws_eqNodeS.l0 (fun k a b => laws_eqNode.f k a.f0 a.f1 a.f2 a.f3 a.f4 b.f0 b.f1 b.f2 b.f3 b.f4) z34 l (by omega) (fun k x y i => rfl) (fun a ha => eqNode_ev a (h2 a ha).1 (h2 a ha).2.1 (h2 a ha).2.2)
  refine Ev.congr (fun k => ?_) e
  unfold laws_eqNodeS.f
  rw [if_pos rfl]
end Go.Proofs.Ytogffkekgfkhkaa.C
