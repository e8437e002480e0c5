/- What a checked program gives. -/
import Derived.Test.YtmmpiojekgfdjaaDoorZpB4
import Derived.Test.YtmmpiojekgfdjaaDoorZpK
namespace Go.Proofs.YtmmpiojekgfdjaaDoor.C
open Go.RowKit YtmmpiojekgfdjaaDoorW.PrintWords YtmmpiojekgfdjaaDoorW.PrintLast
set_option linter.unusedVariables false
set_option linter.unusedSimpArgs false
theorem lineL_len (start : ByteArray) (parts : List ByteArray) : (lineL start parts).length = start.size + ((parts.map fun s => 1 + s.size).sum + 1) := by
 unfold lineL
 simp only [List.length_append, bytesOf_length, partsL_len, List.length_singleton]
theorem sum_le {l : List ByteArray} {m : Nat} (h : ∀ s ∈ l, s.size ≤ m) : (l.map fun s => 1 + s.size).sum ≤ (m + 1) * l.length := by
 induction l with
 | nil => simp
 | cons s l ih =>
  have h1 := h s List.mem_cons_self
  have h2 := ih (fun t ht => h t (List.mem_cons_of_mem _ ht))
  rw [List.map_cons, List.sum_cons, List.length_cons, Nat.mul_succ]
  omega
theorem lineL_byt (start : ByteArray) (parts : List ByteArray) : BytL (lineL start parts) := by
 rw [lineL_of]
 exact (bytL_bytes _).app (fun c hc => by simp at hc; omega)
theorem codeL_byt (qt : List Int → List Int) (cs : List S69) : ∀ (l : List S51) (k : Nat), BytL (codeL qt cs k l)
 | [], _ => fun _ h => by simp [codeL] at h
 | x :: l, k => (lineL_byt _ _).app (codeL_byt qt cs l (k + 1))
theorem listL_byt (qt : List Int → List Int) (cs : List S69) : ∀ (l : List S45) (k : Nat), BytL (listL qt cs k l)
 | [], _ => fun _ h => by simp [listL] at h
 | f :: l, k => ((lineL_byt _ _).app (codeL_byt qt cs _ 0)).app (listL_byt qt cs l (k + 1))
structure RangeC (cs : List S69) : Prop where
 n : ∀ c ∈ cs, IntOK c.f1
 b : ∀ c ∈ cs, ∀ x ∈ c.f2, 0 ≤ x ∧ x ≤ 255
theorem intOK_small {v : Int} (h0 : 0 ≤ v) (h1 : v ≤ 2000000) : IntOK v := by unfold IntOK; omega
theorem op0_of {x : S51} {nc : Nat} {ps : List S45} {s : Int} {n2 n3 : Nat} (h : goodInsB x.f0 x.f1 x.f2 nc ps s n2 n3 = true) (h0 : x.f0 = 0) : 0 ≤ x.f1 ∧ x.f1 < nc := by
 obtain ⟨op, a, b⟩ := x
 simp only at h h0 ⊢
 subst h0
 rw [show (0 : Int) = ((0 : Nat) : Int) from rfl, goodInsB_nat 0 (by omega)] at h
 split at h
 ·
  cases h
 ·
  rename_i hb
  unfold insBad at hb
  have e : boundV (rowA 0) nc ps.length s n2 n3 = nc := rfl
  rw [e] at hb
  simp at hb
  omega
theorem insP_size {cs : List S69} {x : S51} (h0 : 0 ≤ x.f0) (h1 : x.f0 < 28) (ha : IntOK x.f1) (hb : IntOK x.f2) (hz : x.f0 = 0 → 0 ≤ x.f1 ∧ x.f1 < cs.length) (hr : RangeC cs) (hl : ∀ c ∈ cs, c.f2.length ≤ 5000) : (∀ s ∈ insP qtL cs x, s.size ≤ 20002) ∧ (insP qtL cs x).length ≤ 3 := by
 obtain ⟨n, hn⟩ : ∃ n : Nat, x.f0 = n := ⟨x.f0.toNat, by omega⟩
 obtain ⟨_, zw⟩ := word_all ⟨n, by omega⟩
 simp only at zw
 have za := decS_size ha
 have zb := decS_size hb
 unfold insP argP
 rw [hn, Int.toNat_natCast]
 by_cases e0 : (n : Int) = 0
 ·
  rw [if_pos e0]
  obtain ⟨a0, a1⟩ := hz (by omega)
  have hm : rd_T69 cs x.f1 ∈ cs := by
   obtain ⟨m, hm⟩ := Int.eq_ofNat_of_zero_le a0
   rw [hm, rdT48_nat cs m (by omega)]
   exact List.getElem_mem _
  have zc := decS_size (hr.n _ hm)
  have zq : (strOfNums (qtL (rd_T69 cs x.f1).f2)).size ≤ 20002 := by rw [strOfNums_size]; have := QP.quoted_length (rd_T69 cs x.f1).f2; have := hl _ hm; unfold qtL; omega
  split
  ·
   refine ⟨fun s hs => ?_, by simp⟩
   simp at hs
   rcases hs with rfl | rfl <;> omega
  ·
   refine ⟨fun s hs => ?_, by simp⟩
   simp at hs
   rcases hs with rfl | rfl <;> omega
 ·
  rw [if_neg e0]
  refine ⟨fun s hs => ?_, by repeat' split <;> simp⟩
  rcases List.mem_cons.1 hs with rfl | hs
  ·
   omega
  ·
   rcases List.mem_append.1 hs with hs | hs
   ·
    split at hs
    ·
     simp at hs
    ·
     simp at hs; subst hs; omega
   ·
    split at hs
    ·
     simp at hs
    ·
     simp at hs; subst hs; omega
theorem codeL_len {cs : List S69} (hr : RangeC cs) (hl : ∀ c ∈ cs, c.f2.length ≤ 5000) : ∀ (l : List S51) (k : Nat), k + l.length ≤ 20000 → (∀ x ∈ l, 0 ≤ x.f0 ∧ x.f0 < 28 ∧ IntOK x.f1 ∧ IntOK x.f2 ∧ (x.f0 = 0 → 0 ≤ x.f1 ∧ x.f1 < cs.length)) → (codeL qtL cs k l).length ≤ 60100 * l.length
 | [], _, _, _ => by simp [codeL]
 | x :: l, k, hk, h => by
  obtain ⟨h0, h1, ha, hb, hz⟩ := h x List.mem_cons_self
  have hs := insP_size h0 h1 ha hb hz hr hl
  have ih := codeL_len hr hl l (k + 1) (by rw [List.length_cons] at hk; omega) (fun y hy => h y (List.mem_cons_of_mem _ hy))
  have zi := decS_size (v := (k : Int)) (by unfold IntOK; rw [List.length_cons] at hk; omega)
  have h3 := sum_le hs.1
  have h4 : (20002 + 1) * (insP qtL cs x).length ≤ (20002 + 1) * 3 := Nat.mul_le_mul_left _ hs.2
  show (lineL _ _ ++ codeL qtL cs (k + 1) l).length ≤ _
  rw [List.length_append, lineL_len, ByteArray.size_append, List.length_cons, Nat.mul_succ]
  have s2 : (⟨#[32, 32]⟩ : ByteArray).size = 2 := rfl
  omega
theorem capW_size {c : S48} (h : IntOK c.f1) : (capW c).size ≤ 25 := by
 have := decS_size h
 unfold capW
 rw [ByteArray.size_append]
 split
 ·
  have : (⟨#[117, 112]⟩ : ByteArray).size = 2 := rfl
  omega
 ·
  have : (⟨#[115, 108, 111, 116]⟩ : ByteArray).size = 4 := rfl
  omega
structure FuncOK (cs : List S69) (p : S45) : Prop where
 h : IntOK p.f0 ∧ IntOK p.f1 ∧ p.f2.length ≤ 100 ∧ p.f3.length ≤ 20000 ∧ (∀ u ∈ p.f2, IntOK u.f1) ∧ ∀ x ∈ p.f3, 0 ≤ x.f0 ∧ x.f0 < 28 ∧ IntOK x.f1 ∧ IntOK x.f2 ∧ (x.f0 = 0 → 0 ≤ x.f1 ∧ x.f1 < cs.length)
theorem funcL_len {cs : List S69} (hr : RangeC cs) (hl : ∀ c ∈ cs, c.f2.length ≤ 5000) {p : S45} (hp : FuncOK cs p) (i : Nat) (hi : i ≤ 500) : (funcL qtL cs i p).length ≤ 5000 + 60100 * p.f3.length := by
 obtain ⟨h0, h1, h2, h3, h4, h5⟩ := hp.h
 have hc := codeL_len hr hl p.f3 0 (by omega) h5
 have hs : ∀ s ∈ headP i p, s.size ≤ 25 := by
  intro s hs
  rcases List.mem_append.1 hs with hs | hs
  ·
   have z := decS_size (v := (i : Int)) (by unfold IntOK; omega)
   have z0 := decS_size h0
   have z1 := decS_size h1
   simp at hs
   rcases hs with rfl | rfl | rfl <;> omega
  ·
   obtain ⟨u, hu, rfl⟩ := List.mem_map.1 hs
   exact capW_size (h4 u hu)
 have h6 := sum_le hs
 have h7 : (headP i p).length ≤ 103 := by simp [headP]; omega
 have h8 : (25 + 1) * (headP i p).length ≤ (25 + 1) * 103 := Nat.mul_le_mul_left _ h7
 have h9 : wordFn.size = 8 := rfl
 unfold funcL
 rw [List.length_append, lineL_len]
 omega
theorem listL_len {cs : List S69} (hr : RangeC cs) (hl : ∀ c ∈ cs, c.f2.length ≤ 5000) : ∀ (ps : List S45) (i : Nat), i + ps.length ≤ 500 → (∀ p ∈ ps, FuncOK cs p) → (listL qtL cs i ps).length ≤ 5000 * ps.length + 60100 * sumCode ps
 | [], _, _, _ => by simp [listL, sumCode]
 | p :: ps, i, hi, h => by
  have h1 := funcL_len hr hl (h p List.mem_cons_self) i (by omega)
  have ih := listL_len hr hl ps (i + 1) (by rw [List.length_cons] at hi; omega) (fun y hy => h y (List.mem_cons_of_mem _ hy))
  show (funcL qtL cs i p ++ listL qtL cs (i + 1) ps).length ≤ 5000 * (p :: ps).length + 60100 * (p.f3.length + sumCode ps)
  rw [List.length_append, List.length_cons]
  omega
theorem funcOK_of {cs : List S69} {ps : List S45} (h : Sound cs ps) {f : S45} (hf : f ∈ ps) : FuncOK cs f := by
 obtain ⟨a0, a1, a2, a3, _, a5, a6, a7⟩ := h.pro hf
 refine ⟨intOK_small a0 (by omega), intOK_small (by omega) (by omega), a3, a5, fun u hu => intOK_small (a6 u hu).1 (by have := (a6 u hu).2; omega), fun x hx => ?_⟩
 obtain ⟨hfi, hgi⟩ := a7 x hx
 exact ⟨hfi.1, hfi.2.1, intOK_small hfi.2.2.1 hfi.2.2.2.1, intOK_small hfi.2.2.2.2.1 hfi.2.2.2.2.2.1, fun e => op0_of hgi e⟩
theorem Sound.good {cs : List S69} {ps : List S45} (h : Sound cs ps) (hr : RangeC cs) : GoodP qtL cs ps := by
 have hl := fun c hc => (h.cst (c := c) hc).1
 refine ⟨fun c hc => (QP.impl_ev c.f2 (hr.b c hc) (by have := hl c hc; omega)).rounds, hr.n, fun p hp => (funcOK_of h hp).h, h.n1, ?_, listL_byt _ _ _ _⟩
 have := listL_len hr hl ps 0 (by have := h.n1; omega) (fun p hp => funcOK_of h hp)
 have := h.n1
 have := h.sm
 omega
theorem Sound.spec {cs : List S69} {ps : List S45} (h : Sound cs ps) (hr : RangeC cs) : SpecP qtL cs ps := by
 exact ⟨fun v hv => (dec_ev v hv).rounds, fun c hc => ⟨hr.n c hc, (h.cst hc).1, hr.b c hc⟩⟩
end Go.Proofs.YtmmpiojekgfdjaaDoor.C
