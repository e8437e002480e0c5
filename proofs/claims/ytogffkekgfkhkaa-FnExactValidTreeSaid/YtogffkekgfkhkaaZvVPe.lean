/- Places of nodes. -/
import Derived.Test.YtogffkekgfkhkaaZvVPd
import Derived.Test.YtogffkekgfkhkaaZvCx5
import Derived.Test.YtogffkekgfkhkaaZvK
namespace Go.Proofs.Ytogffkekgfkhkaa.C
open Go.RowKit Go.Proofs.YtogffkekgfkhkaaW.PrintWords Go.Proofs.YtogffkekgfkhkaaW.PrintLast Go.Proofs.YtogffkekgfkhkaaW.PrintMore
set_option linter.unusedVariables false
set_option linter.unusedSimpArgs false
def Fo.app : Fo → Fo → Fo
  | .nil, G => G
  | .cons h k r, G => .cons h k (r.app G)
theorem Fo.pre_app : ∀ F G : Fo, (F.app G).pre = F.pre ++ G.pre
  | .nil, _ => rfl
  | .cons h k r, G => by simp [Fo.app, Fo.pre, Fo.pre_app r G]
theorem Fo.trees_app : ∀ F G : Fo, (F.app G).trees = F.trees ++ G.trees
  | .nil, _ => rfl
  | .cons h k r, G => by simp [Fo.app, Fo.trees, Fo.trees_app r G]
theorem Fo.ok_app : ∀ F G : Fo, F.ok → G.ok → (F.app G).ok
  | .nil, _, _, hg => hg
  | .cons h k r, G, hf, hg => ⟨hf.1, hf.2.1, Fo.ok_app r G hf.2.2 hg⟩
theorem Fo.trees_le : ∀ F : Fo, F.trees.length ≤ F.pre.length
  | .nil => by simp [Fo.trees]
  | .cons h k r => by have := Fo.trees_le r; simp [Fo.trees, Fo.pre]; omega
theorem drop_head {t : List S34} {s : Nat} {h : S34} {l : List S34} (hd : t.drop s = h :: l) : ∃ hs : s < t.length, t[s] = h ∧ t.drop (s + 1) = l := by
  have hs : s < t.length := by
    rcases Nat.lt_or_ge s t.length with hs | hs
    · exact hs
    · rw [List.drop_eq_nil_of_le hs] at hd; cases hd
  rw [List.drop_eq_getElem_cons hs] at hd
  injection hd with h1 h2
  exact ⟨hs, h1, h2⟩
theorem next_loop (t : List S34) (ht : t.length ≤ 6000) : ∀ (m : Nat) (F : Fo) (s : Nat) (rest : List S34), F.pre.length = m → F.ok → s ≤ t.length → t.drop s = F.pre ++ rest → Ev (fun k => spec_l3next.l0 k t (s : Int) ((F.trees.length : Nat) : Int)) (((s + F.pre.length : Nat)) : Int) := by
  intro m
  induction m with
  | zero =>
    intro F s rest hm ho hs hd
    cases F with
    | nil =>
      refine Ev.step (f := fun _ => some (s : Int)) (fun k => ?_) (Ev.now _)
      rw [spec_l3next.l0, if_neg (by simp [Fo.trees])]
    | cons h k r => simp [Fo.pre] at hm
  | succ m ih =>
    intro F s rest hm ho hs hd
    cases F with
    | nil => simp [Fo.pre] at hm
    | cons h k r =>
      have hd' : t.drop s = h :: ((k.app r).pre ++ rest) := by rw [hd, Fo.pre_app]; rfl
      obtain ⟨hlt, he, hd2⟩ := drop_head hd'
      have hl : (k.app r).pre.length = m := by rw [Fo.pre_app]; simp [Fo.pre] at hm ⊢; omega
      have hle : (k.app r).pre.length ≤ 6000 := by
        have := congrArg List.length hd2
        rw [List.length_drop, List.length_append] at this
        omega
      have hte := Fo.trees_le (k.app r)
      have key := ih (k.app r) (s + 1) rest hl (Fo.ok_app k r ho.2.1 ho.2.2) (by omega) hd2
      refine Ev.step (f := fun k' => spec_l3next.l0 k' t ((s + 1 : Nat) : Int) (((k.app r).trees.length : Nat) : Int)) (fun k' => ?_) ?_
      · have h4 : t[s].f4 = ((k.trees.length : Nat) : Int) := by rw [he]; exact ho.1
        rw [Fo.trees_app, List.length_append] at hte
        rw [spec_l3next.l0, if_pos (by simp only [Fo.trees, List.length_cons]; omega), if_pos (by omega), if_pos (by omega), rdT_nat t s hlt, h4, wrap1 s (by omega)]
        congr 1
        rw [w64 (a := ((k.trees.length : Nat) : Int) - 1) (by omega) (by omega)]
        rw [Fo.trees_app, List.length_append]
        simp only [Fo.trees, List.length_cons]
        rw [w64 (by omega) (by omega)]
        omega
      · rw [show (Fo.cons h k r).pre.length = (k.app r).pre.length + 1 by rw [Fo.pre_app]; simp [Fo.pre]]
        rw [show s + ((k.app r).pre.length + 1) = s + 1 + (k.app r).pre.length by omega]
        exact key
theorem next_ev (t : List S34) (ht : t.length ≤ 6000) (h : S34) (k : Fo) (s : Nat) (rest : List S34) (hd : t.drop s = h :: (k.pre ++ rest)) (h4 : h.f4 = ((k.trees.length : Nat) : Int)) (ho : k.ok) : Ev (fun k' => spec_l3next.f k' t (s : Int)) ((s + 1 + k.pre.length : Nat) : Int) := by
  obtain ⟨hlt, he, hd2⟩ := drop_head hd
  refine Ev.congr (fun k' => ?_) (next_loop t ht _ k (s + 1) rest rfl ho (by omega) hd2)
  unfold spec_l3next.f
  rw [if_pos (by omega), if_pos (by omega), rdT_nat t s hlt, he, h4, wrap1 s (by omega)]
def posF (s : Nat) : Fo → List Int
  | .nil => []
  | .cons _ k r => (s : Int) :: posF (s + 1 + k.pre.length) r
theorem posF_len : ∀ (F : Fo) (s : Nat), (posF s F).length = F.trees.length
  | .nil, _ => rfl
  | .cons h k r, s => by simp [posF, Fo.trees, posF_len r]
theorem kids_loop (t : List S34) (ht : t.length ≤ 6000) (i : Nat) (hi : i < t.length) (n : Nat) (hn : n ≤ 6000) (h4 : t[i].f4 = ((n : Nat) : Int)) : ∀ (F : Fo) (acc : List Int) (s : Nat) (rest : List S34), F.ok → s ≤ t.length → t.drop s = F.pre ++ rest → acc.length + F.trees.length = n →
    Ev (fun k => spec_l3kids.l0 k t (i : Int) acc (s : Int) ((acc.length : Nat) : Int)) (acc ++ posF s F)
  | .nil, acc, s, rest, ho, hs, hd, hl => by
    simp only [Fo.trees, List.length_nil] at hl
    refine Ev.step (f := fun _ => some acc) (fun k => ?_) (by rw [posF, List.append_nil]; exact Ev.now _)
    rw [spec_l3kids.l0, if_pos (by omega), if_pos (by omega), rdT_nat t i hi, h4, if_neg (by omega)]
  | .cons h k r, acc, s, rest, ho, hs, hd, hl => by
    have hd' : t.drop s = h :: (k.pre ++ (r.pre ++ rest)) := by rw [hd]; simp [Fo.pre]
    obtain ⟨hlt, he, hd2⟩ := drop_head hd'
    have hd3 : t.drop (s + 1 + k.pre.length) = r.pre ++ rest := by rw [← List.drop_drop, hd2]; simp
    have hle : s + 1 + k.pre.length ≤ t.length := by
      have := congrArg List.length hd2
      rw [List.length_drop, List.length_append] at this
      omega
    simp only [Fo.trees, List.length_cons] at hl
    have key := kids_loop t ht i hi n hn h4 r (acc ++ [(s : Int)]) (s + 1 + k.pre.length) rest ho.2.2 hle hd3 (by rw [List.length_append, List.length_singleton]; omega)
    refine Ev.step (f := fun k' => (spec_l3next.f k' t (s : Int)).bind fun t145 => (spec_l3kids.l0 k' t (i : Int) (acc ++ [(s : Int)]) t145 ((acc.length + 1 : Nat) : Int))) (fun k' => ?_) ?_
    · rw [spec_l3kids.l0, if_pos (by omega), if_pos (by omega), rdT_nat t i hi, h4, if_pos (by omega), if_pos (by omega), wrap1 acc.length (by omega)]
    · refine Ev.bind (f := fun k' t145 => (spec_l3kids.l0 k' t (i : Int) (acc ++ [(s : Int)]) t145 ((acc.length + 1 : Nat) : Int))) (next_ev t ht h k s (r.pre ++ rest) hd' ho.1 ho.2.1) ?_
      rw [List.length_append, List.length_singleton] at key
      rw [posF, show acc ++ (s : Int) :: posF (s + 1 + k.pre.length) r = acc ++ [(s : Int)] ++ posF (s + 1 + k.pre.length) r by simp]
      exact key
theorem kids_ev (t : List S34) (ht : t.length ≤ 6000) (h : S34) (k : Fo) (s : Nat) (rest : List S34) (hd : t.drop s = h :: (k.pre ++ rest)) (h4 : h.f4 = ((k.trees.length : Nat) : Int)) (ho : k.ok) : Ev (fun k' => spec_l3kids.f k' t (s : Int)) (posF (s + 1) k) := by
  obtain ⟨hlt, he, hd2⟩ := drop_head hd
  have hle : k.trees.length ≤ 6000 := by
    have := congrArg List.length hd2
    rw [List.length_drop, List.length_append] at this
    have := Fo.trees_le k
    omega
  have key := kids_loop t ht s hlt k.trees.length hle (by rw [he]; exact h4) k [] (s + 1) rest ho (by omega) hd2 (by simp)
  refine Ev.congr (fun k' => ?_) key
  unfold spec_l3kids.f
  rw [wrap1 s (by omega)]
  rfl
end Go.Proofs.Ytogffkekgfkhkaa.C
