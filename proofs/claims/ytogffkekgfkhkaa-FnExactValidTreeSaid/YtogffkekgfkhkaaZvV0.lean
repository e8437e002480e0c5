/- Forests of nodes, in memory and as lists. -/
import Derived.Test.YtogffkekgfkhkaaZvCx0
import Derived.Lib.LazyBuf
import Derived.Test.YtogffkekgfkhkaaZvK
namespace Go.Proofs.Ytogffkekgfkhkaa.C
open Go.RowKit Go.Proofs.YtogffkekgfkhkaaW.PrintWords Go.Proofs.YtogffkekgfkhkaaW.PrintLast Go.Proofs.YtogffkekgfkhkaaW.PrintMore
set_option linter.unusedVariables false
set_option linter.unusedSimpArgs false
theorem blk_lt {w : World} {b : Nat} {o : Obj} (h : w.heap[b]? = some o) : b < w.heap.size := (Array.getElem?_eq_some_iff.1 h).1
abbrev pv (b : Nat) : Value := .pointer (some ⟨b, 0, none⟩)
abbrev nv (b : Nat) : Value := .iface 67 (pv b)
namespace Kdx
variable {α : Type}
def ptr (el : Nat) (d : Kd α) : Kd α where
  sz := 1
  E := el :: d.E
  K := fun w x cs => ∃ b cells, cs = [nv b] ∧ w.heap[b]? = some (.cells cells el (0, 0)) ∧ d.K w x cells.toList
  M := fun w base ok x cs => ∃ b cells, cs = [nv b] ∧ base ≤ b ∧ ok b ∧ w.heap[b]? = some (.cells cells el (0, 0)) ∧ d.M w base (fun k => ok k ∧ k ≠ b) x cells.toList
  K_len := by
    rintro w x cs ⟨b, cells, rfl, _⟩
    rfl
  K_one := by
    rintro w x cs ⟨b, cells, rfl, _⟩ u hu
    rw [List.mem_singleton.1 hu]
    rfl
  K_below := by
    rintro w w1 x cs hb ⟨b, cells, rfl, h, hk⟩
    exact ⟨b, cells, rfl, (hb.block b (blk_lt h)).trans h, d.K_below hb hk⟩
  K_of_M := by
    rintro w base ok x cs ⟨b, cells, rfl, _, _, h, hk⟩
    exact ⟨b, cells, rfl, h, d.K_of_M hk⟩
  M_mono := by
    rintro w base ok ok' x cs hok ⟨b, cells, rfl, h0, h1, h, hk⟩
    exact ⟨b, cells, rfl, h0, hok b h1, h, d.M_mono (fun k hk => ⟨hok k hk.1, hk.2⟩) hk⟩
  M_bound := by
    rintro w base ok x cs ⟨b, cells, rfl, h0, h1, h, hk⟩
    refine ⟨b, cells, rfl, h0, ⟨h1, h0, blk_lt h, el, List.mem_cons_self, cells, h⟩, h, d.M_mono ?_ (d.M_bound hk)⟩
    rintro k ⟨⟨h1, h2⟩, h3, h4, q, hq, hc⟩
    exact ⟨⟨h1, h3, h4, q, List.mem_cons_of_mem _ hq, hc⟩, h2⟩
  M_move := by
    rintro w w1 base ok x cs hm ⟨b, cells, rfl, h0, h1, h, hk⟩
    exact ⟨b, cells, rfl, h0, h1, (hm b h1).trans h, d.M_move (fun k hk => hm k hk.1) hk⟩
  M_lower := by
    rintro w base base' ok x cs hb ⟨b, cells, rfl, h0, h1, h, hk⟩
    exact ⟨b, cells, rfl, Nat.le_trans hb h0, h1, h, d.M_lower hb hk⟩
theorem mono_ptr {β γ : Type} (el : Nat) {G : Kd β → Kd γ} (hG : Kd.Mono G) : Kd.Mono (fun d => ptr el (G d)) := by
  refine ⟨fun _ _ _ => rfl, ?_, ?_⟩
  · rintro d d' hs h w x cs ⟨b, cells, rfl, hh, hk⟩
    exact ⟨b, cells, rfl, hh, hG.K d d' hs h _ _ _ hk⟩
  · rintro d d' hs h w base ok x cs ⟨b, cells, rfl, h0, h1, hh, hk⟩
    exact ⟨b, cells, rfl, h0, h1, hh, hG.M d d' hs h _ _ _ _ _ hk⟩
theorem sub_ptr {β γ : Type} {E : List Nat} (el : Nat) {G : Kd β → Kd γ} (he : el ∈ E) (hG : Kd.Sub G E) : Kd.Sub (fun d => ptr el (G d)) E := fun d h q hq => by
  rcases List.mem_cons.1 hq with rfl | hq
  · exact he
  · exact hG d h q hq
end Kdx
abbrev NV := S34
inductive Fo where
  | nil
  | cons (h : NV) (k r : Fo)
def Fo.pre : Fo → List NV
  | .nil => []
  | .cons h k r => h :: (k.pre ++ r.pre)
def Fo.trees : Fo → List (NV × Fo)
  | .nil => []
  | .cons h k r => (h, k) :: r.trees
def Fo.of : List (NV × Fo) → Fo
  | [] => .nil
  | t :: l => .cons t.1 t.2 (Fo.of l)
theorem Fo.of_trees : ∀ F : Fo, Fo.of F.trees = F
  | .nil => rfl
  | .cons h k r => by rw [Fo.trees, Fo.of, Fo.of_trees r]
theorem Fo.trees_of : ∀ l : List (NV × Fo), (Fo.of l).trees = l
  | [] => rfl
  | t :: l => by rw [Fo.of, Fo.trees, Fo.trees_of l]
/-- every node counts its children -/
def Fo.ok : Fo → Prop
  | .nil => True
  | .cons h k r => h.f4 = (k.trees.length : Int) ∧ k.ok ∧ r.ok
def Fo.all (p : NV → Fo → Bool) : Fo → Bool
  | .nil => true
  | .cons h k r => p h k && (k.all p && r.all p)
/-- n trees, one behind the other, by f -/
def kidsBy (f : List NV → Option ((NV × Fo) × List NV)) : Nat → List NV → Option (Fo × List NV)
  | 0, l => some (.nil, l)
  | n + 1, l => match f l with
    | none => none
    | some (t, l') => match kidsBy f n l' with
      | none => none
      | some (r, l'') => some (.cons t.1 t.2 r, l'')
/-- impl.treeOf -/
def treeF : Nat → List NV → Option ((NV × Fo) × List NV)
  | 0, _ => none
  | _ + 1, [] => none
  | d + 1, h :: l => if 0 ≤ h.f4 ∧ h.f4 ≤ (l.length : Int) + 1 then match kidsBy (treeF d) h.f4.toNat l with
      | none => none
      | some (k, l') => some ((h, k), l')
    else none
def Splits (f : List NV → Option ((NV × Fo) × List NV)) : Prop :=
  ∀ l t l', f l = some (t, l') → l = t.1 :: (t.2.pre ++ l') ∧ t.1.f4 = (t.2.trees.length : Int) ∧ t.2.ok
theorem kidsBy_splits {f : List NV → Option ((NV × Fo) × List NV)} (hf : Splits f) : ∀ n l k l', kidsBy f n l = some (k, l') → l = k.pre ++ l' ∧ k.trees.length = n ∧ k.ok
  | 0, l, k, l', h => by
    simp only [kidsBy, Option.some.injEq, Prod.mk.injEq] at h
    obtain ⟨rfl, rfl⟩ := h
    exact ⟨rfl, rfl, trivial⟩
  | n + 1, l, k, l', h => by
    simp only [kidsBy] at h
    split at h
    · cases h
    · rename_i t l1 h1
      split at h
      · cases h
      · rename_i r l2 h2
        simp only [Option.some.injEq, Prod.mk.injEq] at h
        obtain ⟨rfl, rfl⟩ := h
        obtain ⟨a, b, c⟩ := hf _ _ _ h1
        obtain ⟨d, e, g⟩ := kidsBy_splits hf n _ _ _ h2
        exact ⟨by rw [a, d]; simp [Fo.pre], by simp [Fo.trees, e], b, c, g⟩
theorem treeF_splits : ∀ d, Splits (treeF d)
  | 0, _, _, _, h => by simp [treeF] at h
  | _ + 1, [], _, _, h => by simp [treeF] at h
  | d + 1, x :: l, t, l', h => by
    simp only [treeF] at h
    split at h
    · rename_i hc
      split at h
      · cases h
      · rename_i k l1 h1
        simp only [Option.some.injEq, Prod.mk.injEq] at h
        obtain ⟨rfl, rfl⟩ := h
        obtain ⟨a, b, c⟩ := kidsBy_splits (treeF_splits d) _ _ _ _ h1
        exact ⟨by rw [a], by show x.f4 = (k.trees.length : Int); omega, c⟩
    · cases h
/-- what a tree of a forest takes of the list -/
theorem kidsBy_len {f : List NV → Option ((NV × Fo) × List NV)} (hf : Splits f) {n l k l'} (h : kidsBy f n l = some (k, l')) : n ≤ l.length := by
  obtain ⟨a, b, -⟩ := kidsBy_splits hf n l k l' h
  have : ∀ F : Fo, F.trees.length ≤ F.pre.length := fun F => by
    induction F with
    | nil => simp [Fo.trees]
    | cons h k r _ ih => simp [Fo.trees, Fo.pre]; omega
  have := this k
  rw [a, List.length_append]
  omega
def kidsEnd (f : Nat → Option Nat) : Nat → Nat → Option Nat
  | 0, i => some i
  | n + 1, i => match f i with
    | none => none
    | some j => kidsEnd f n j
def endF (t : List NV) : Nat → Nat → Option Nat
  | 0, _ => none
  | d + 1, i => match t[i]? with
    | none => none
    | some h => if 0 ≤ h.f4 ∧ h.f4 ≤ (t.length : Int) then kidsEnd (endF t d) h.f4.toNat (i + 1) else none
theorem drop_of_suffix {t l : List NV} (h : l <:+ t) : t.drop (t.length - l.length) = l := (List.suffix_iff_eq_drop.1 h).symm
theorem kidsEnd_eq (t : List NV) (d : Nat) (hd : ∀ i, i ≤ t.length → endF t d i = (treeF d (t.drop i)).map fun x => t.length - x.2.length) :
    ∀ n i, i ≤ t.length → kidsEnd (endF t d) n i = (kidsBy (treeF d) n (t.drop i)).map fun x => t.length - x.2.length
  | 0, i, h => by simp [kidsEnd, kidsBy]; omega
  | n + 1, i, h => by
    simp only [kidsEnd, kidsBy, hd i h]
    cases e : treeF d (t.drop i) with
    | none => rfl
    | some x =>
      obtain ⟨x, l'⟩ := x
      have hs := (treeF_splits d _ _ _ e).1
      have hsuf : l' <:+ t := List.IsSuffix.trans ⟨x.1 :: x.2.pre, by rw [hs]; simp⟩ (List.drop_suffix i t)
      have hl := drop_of_suffix hsuf
      have ih := kidsEnd_eq t d hd n (t.length - l'.length) (by omega)
      rw [hl] at ih
      simp only [Option.map_some, ih]
      cases kidsBy (treeF d) n l' with
      | none => rfl
      | some y => rfl
theorem endF_eq (t : List NV) : ∀ d i, i ≤ t.length → endF t d i = (treeF d (t.drop i)).map fun x => t.length - x.2.length
  | 0, i, h => by simp [endF, treeF]
  | d + 1, i, h => by
    by_cases hi : i < t.length
    · have e : t.drop i = t[i] :: t.drop (i + 1) := List.drop_eq_getElem_cons hi
      rw [e]
      simp only [endF, treeF, List.getElem?_eq_getElem hi, List.length_drop]
      by_cases h0 : 0 ≤ t[i].f4
      · by_cases h1 : t[i].f4 ≤ (t.length : Int)
        · rw [if_pos ⟨h0, h1⟩, kidsEnd_eq t d (endF_eq t d) _ _ (by omega)]
          by_cases h2 : t[i].f4 ≤ ((t.length - (i + 1) : Nat) : Int) + 1
          · rw [if_pos ⟨h0, h2⟩]
            cases kidsBy (treeF d) t[i].f4.toNat (t.drop (i + 1)) with
            | none => rfl
            | some y => rfl
          · rw [if_neg (fun h => h2 h.2)]
            cases e2 : kidsBy (treeF d) t[i].f4.toNat (t.drop (i + 1)) with
            | none => rfl
            | some y =>
              have := kidsBy_len (treeF_splits d) e2
              rw [List.length_drop] at this
              omega
        · rw [if_neg (fun h => h1 h.2), if_neg (fun h => by omega)]; rfl
      · rw [if_neg (fun h => h0 h.1), if_neg (fun h => h0 h.1)]; rfl
    · have e : t.drop i = [] := List.drop_eq_nil_of_le (by omega)
      have e2 : t[i]? = none := List.getElem?_eq_none (by omega)
      rw [e]
      simp only [endF, treeF, e2]
      rfl
def knF (d : Kd NV) (k : Kd (NV × Fo)) : Kd (NV × Fo) := Kdx.ptr 70 (Kd.iso (Kd.pair d (Kd.slice 39 k)) (fun t : NV × Fo => (t.1, t.2.trees)))
theorem knF_mono (d : Kd NV) : Kd.Mono (knF d) := Kdx.mono_ptr 70 (Kd.mono_iso _ (Kd.mono_pair (Kd.mono_const d) (Kd.mono_slice 39 Kd.mono_id)))
theorem knF_sub (d : Kd NV) : Kd.Sub (knF d) (70 :: 39 :: d.E) :=
  Kdx.sub_ptr 70 (by simp) (Kd.sub_iso _ (Kd.sub_pair (Kd.sub_const d (fun q hq => by simp [hq])) (Kd.sub_slice 39 (by simp) Kd.sub_id)))
theorem knF_sz (d : Kd NV) : ∀ n, (Kd.upto (knF d) 1 (70 :: 39 :: d.E) n).sz = 1 := Kd.upto_sz (fun _ => rfl)
def kn (d : Kd NV) : Kd (NV × Fo) := Kd.fix (knF d) 1 (70 :: 39 :: d.E) (knF_sz d) (Kd.upto_E (knF_sub d))
end Go.Proofs.Ytogffkekgfkhkaa.C
