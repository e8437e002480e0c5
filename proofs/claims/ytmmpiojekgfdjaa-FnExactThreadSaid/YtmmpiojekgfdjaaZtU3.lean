/- The specification threads alike. -/
import Derived.Test.YtmmpiojekgfdjaaZtU2
import Derived.Test.YtmmpiojekgfdjaaZtTh6
import Derived.Test.YtmmpiojekgfdjaaZtK
namespace Go.Proofs.Ytmmpiojekgfdjaa.C
open Go.RowKit YtmmpiojekgfdjaaW.PrintWords YtmmpiojekgfdjaaW.PrintLast
set_option linter.unusedVariables false
set_option linter.unusedSimpArgs false
theorem l5last_ev (code : List S57) (hl : code.length ≤ 1000000) (hg : ∀ x ∈ code, x.f0 = 18 → 0 ≤ x.f1 ∧ x.f1 < code.length) (t : Int) (h0 : 0 ≤ t) (h1 : t < code.length) :
  Ev (fun k => spec_l5last.f k code t) (lastL code t) := by
 have key : ∀ (m i : Nat) (x : Int), i + m = code.length + 1 → 0 ≤ x → x < code.length → Ev (fun k => spec_l5last.l0 k code t x (i : Int)) ((goTo code m x).getD t) := by
  intro m
  induction m with
  | zero =>
   intro i x hi hx0 hx1
   refine Ev.step (f := fun _ => some t) (fun k => ?_) (Ev.now _)
   rw [spec_l5last.l0, if_neg (by omega)]
  | succ m ih =>
   intro i x hi hx0 hx1
   have hin := List.getElem_mem (l := code) (n := x.toNat) (by omega)
   have hrd : rd_T57 code x = code[x.toNat] := by have := getD_nat code z57 x.toNat (by omega); rw [Int.toNat_natCast] at this; exact this
   have hgx := hg _ hin
   rw [← hrd] at hgx
   rw [goTo]
   by_cases hj : (rd_T57 code x).f0 = 18
   ·
    rw [if_pos hj]
    refine Ev.step (f := fun k => spec_l5last.l0 k code t (rd_T57 code x).f1 ((i + 1 : Nat) : Int)) (fun k => ?_) (ih (i + 1) _ (by omega) (hgx hj).1 (hgx hj).2)
    rw [spec_l5last.l0, if_pos (by omega), if_pos hx0, if_pos hx1, if_pos hj, show wrap64 ((i : Int) + 1) = ((i + 1 : Nat) : Int) from wrapN (n := 1000002) (by omega) (by omega)]
   ·
    rw [if_neg hj]
    refine Ev.step (f := fun _ => some x) (fun k => ?_) (Ev.now _)
    rw [spec_l5last.l0, if_pos (by omega), if_pos hx0, if_pos hx1, if_neg hj]
 exact key (code.length + 1) 0 t (by omega) h0 h1
theorem l5copy_ev (cs : List S48) (ps : List S52) (h : FineP cs ps) : Ev (fun k => spec_l5copy.f k cs ps) (cs, ps) := by
 obtain ⟨h1, h2, h3, h4⟩ := h
 have k1 := Ev.up (F := fun k i => spec_l5copy.l1 k (i : Int) cs ps cs (ps.take i)) (r := (cs, ps)) ps.length (fun i hi e => ?_) ?_ 0 (Nat.zero_le _)
 ·
  have k0 := Ev.up (F := fun k i => spec_l5copy.l0 k (i : Int) cs ps (cs.take i)) (r := (cs, ps)) cs.length (fun i hi e => ?_) ?_ 0 (Nat.zero_le _)
  ·
   exact k0
  ·
   refine Ev.step (f := fun k => spec_l5copy.l0 k ((i + 1 : Nat) : Int) cs ps (cs.take (i + 1))) (fun k => ?_) e
   have hr : rd_T48 cs (i : Int) = cs[i] := getD_nat _ _ _ hi
   have hx := h3 cs[i] (List.getElem_mem hi)
   rw [spec_l5copy.l0, if_pos (by omega), if_pos (by omega), hr, spec_l1copy.f, if_pos (by simp; omega), Option.bind_some, if_pos (by simp; omega), wrapN hi (by omega), List.nil_append, List.take_succ_eq_append_getElem hi]
  ·
   refine Ev.step (f := fun k => spec_l5copy.l1 k 0 cs ps cs []) (fun k => ?_) k1
   rw [spec_l5copy.l0, if_neg (by omega), List.take_length]
 ·
  refine Ev.step (f := fun k => spec_l5copy.l1 k ((i + 1 : Nat) : Int) cs ps cs (ps.take (i + 1))) (fun k => ?_) e
  have hr : rd_T52 ps (i : Int) = ps[i] := getD_nat _ _ _ hi
  have hx := h4 ps[i] (List.getElem_mem hi)
  rw [spec_l5copy.l1, if_pos (by omega), if_pos (by omega), hr, if_pos (by simp; omega), if_pos (by simp; omega), if_pos (by simp; omega), wrapN hi (by omega), List.nil_append, List.nil_append, List.take_succ_eq_append_getElem hi]
 ·
  refine Ev.step (f := fun _ => some (cs, ps)) (fun k => ?_) (Ev.now _)
  rw [spec_l5copy.l1, if_neg (by omega), List.take_length]
theorem thr_step (cs C : List S48) (ps : List S52) (i j : Nat) (f : S52) (x : S57) (P T : List S52) (D : List S57) (r : List S48 × List S52) (hP : P.length = i) (hD : D.length = j) (E : List S57)
  (hj : j < f.f3.length) (hx : f.f3[j] = x) (hl : f.f3.length ≤ 20000) (hok : ∀ y ∈ f.f3, FineIns f.f3.length y)
  (e : Ev (fun k => spec_Thread.l1 k (i : Int) f.f3 ((j + 1 : Nat) : Int) cs ps C (P ++ ⟨f.f0, f.f1, f.f2, D ++ thrI f.f3 x :: E⟩ :: T)) r) (hE : (D ++ x :: E).length = f.f3.length) :
  Ev (fun k => spec_Thread.l1 k (i : Int) f.f3 (j : Int) cs ps C (P ++ ⟨f.f0, f.f1, f.f2, D ++ x :: E⟩ :: T)) r := by
 have hfx : FineIns f.f3.length x := hok x (by rw [← hx]; exact List.getElem_mem hj)
 obtain ⟨a0, a1, a2, a3, a4, a5, tA, tB⟩ := hfx
 have hg : ∀ y ∈ f.f3, y.f0 = 18 → 0 ≤ y.f1 ∧ y.f1 < f.f3.length := fun y hy e => by have := hok y hy; exact ⟨this.2.2.1, this.2.2.2.2.2.2.1 (by omega)⟩
 obtain ⟨s, tt, ll, hrow, hsz, hb0, hb1⟩ := l4row_some x.f0.toNat (by omega)
 rw [Int.toNat_of_nonneg a0] at hrow
 have c0 : (j : Int) < (f.f3.length : Int) := by omega
 have c1 : 0 ≤ (j : Int) := by omega
 have hrx : rd_T57 f.f3 (j : Int) = x := by rw [← hx]; exact getD_nat _ _ _ hj
 have s0 : 0 < ((s, tt, ll).1.size : Int) := by show 0 < (s.size : Int); omega
 have s1 : 1 < ((s, tt, ll).1.size : Int) := by show 1 < (s.size : Int); omega
 have i0 : 0 ≤ (i : Int) := by omega
 have i1 : ∀ y : S52, (i : Int) < ((P ++ y :: T).length : Int) := fun y => by simp; omega
 have hrp : ∀ y : S52, rd_T52 (P ++ y :: T) (i : Int) = y := fun y => by unfold rd_T52; rw [Int.toNat_natCast]; exact mid_getD _ _ _ _ _ hP
 have hrx2 : rd_T57 (D ++ x :: E) (j : Int) = x := by unfold rd_T57; rw [Int.toNat_natCast]; exact mid_getD _ _ _ _ _ hD
 have hsP : ∀ y z : S52, (P ++ y :: T).set (i : Int).toNat z = P ++ z :: T := fun y z => by rw [Int.toNat_natCast, mid_set _ _ _ _ _ hP]; simp
 have hsD : ∀ y : S57, (D ++ x :: E).set (j : Int).toNat y = D ++ y :: E := fun y => by rw [Int.toNat_natCast, mid_set _ _ _ _ _ hD]; simp
 have hlD : (j : Int) < ((D ++ x :: E).length : Int) := by omega
 have hw : wrap64 ((j : Int) + 1) = ((j + 1 : Nat) : Int) := wrapN hj (by omega)
 by_cases hA : rowA x.f0.toNat = 116
 ·
  obtain ⟨b18, b21, hB⟩ := rowA_116 _ (by omega) hA
  have hI : thrI f.f3 x = ⟨x.f0, lastL f.f3 x.f1, x.f2⟩ := by unfold thrI; rw [if_pos hA, if_neg hB]
  rw [hI] at e
  have q0 : bt (s, tt, ll).1 0 = 116 := by show bt s 0 = 116; rw [hb0, hA]; rfl
  have q1 : ¬ bt (s, tt, ll).1 1 = 116 := by show ¬ bt s 1 = 116; rw [hb1]; split <;> omega
  refine Ev.step (f := fun k => (spec_l5last.f k f.f3 x.f1).bind fun t => spec_Thread.l1 k (i : Int) f.f3 ((j + 1 : Nat) : Int) cs ps C (P ++ ⟨f.f0, f.f1, f.f2, D ++ ⟨x.f0, t, x.f2⟩ :: E⟩ :: T)) (fun k => ?_) (Ev.bind (f := fun k t => spec_Thread.l1 k (i : Int) f.f3 ((j + 1 : Nat) : Int) cs ps C (P ++ ⟨f.f0, f.f1, f.f2, D ++ ⟨x.f0, t, x.f2⟩ :: E⟩ :: T)) (l5last_ev f.f3 (by omega) hg x.f1 a2 (tA (by omega))) e)
  rw [spec_Thread.l1, if_pos c0, if_pos c1, hrx, hrow, Option.bind_some, if_pos s0, if_pos q0, if_pos i0, if_pos (i1 _)]
  congr 1
  funext t
  simp only [hrp, hsP, hrx2, hsD, hlD, if_pos, Option.bind_some, if_pos s1, if_neg q1, hw]
 ·
  by_cases hB : rowB x.f0.toNat = 116
  ·
   obtain ⟨b26, b27⟩ := rowB_116 _ (by omega) hB
   have hI : thrI f.f3 x = ⟨x.f0, x.f1, lastL f.f3 x.f2⟩ := by unfold thrI; rw [if_neg hA, if_pos hB]
   rw [hI] at e
   have q0 : ¬ bt (s, tt, ll).1 0 = 116 := by show ¬ bt s 0 = 116; rw [hb0]; split <;> omega
   have q1 : bt (s, tt, ll).1 1 = 116 := by show bt s 1 = 116; rw [hb1, hB]; rfl
   refine Ev.step (f := fun k => (spec_l5last.f k f.f3 x.f2).bind fun t => spec_Thread.l1 k (i : Int) f.f3 ((j + 1 : Nat) : Int) cs ps C (P ++ ⟨f.f0, f.f1, f.f2, D ++ ⟨x.f0, x.f1, t⟩ :: E⟩ :: T)) (fun k => ?_) (Ev.bind (f := fun k t => spec_Thread.l1 k (i : Int) f.f3 ((j + 1 : Nat) : Int) cs ps C (P ++ ⟨f.f0, f.f1, f.f2, D ++ ⟨x.f0, x.f1, t⟩ :: E⟩ :: T)) (l5last_ev f.f3 (by omega) hg x.f2 a4 (tB (by omega))) e)
   rw [spec_Thread.l1, if_pos c0, if_pos c1, hrx, hrow, Option.bind_some, if_pos s0, if_neg q0, if_pos s1, if_pos q1, if_pos i0, if_pos (i1 _)]
   congr 1
   funext t
   simp only [hrp, hsP, hrx2, hsD, hlD, if_pos, hw]
  ·
   have hI : thrI f.f3 x = x := by unfold thrI; rw [if_neg hA, if_neg hB]
   rw [hI] at e
   have q0 : ¬ bt (s, tt, ll).1 0 = 116 := by show ¬ bt s 0 = 116; rw [hb0]; split <;> omega
   have q1 : ¬ bt (s, tt, ll).1 1 = 116 := by show ¬ bt s 1 = 116; rw [hb1]; split <;> omega
   refine Ev.step (f := fun k => spec_Thread.l1 k (i : Int) f.f3 ((j + 1 : Nat) : Int) cs ps C (P ++ ⟨f.f0, f.f1, f.f2, D ++ x :: E⟩ :: T)) (fun k => ?_) e
   rw [spec_Thread.l1, if_pos c0, if_pos c1, hrx, hrow, Option.bind_some, if_pos s0, if_neg q0, if_pos s1, if_neg q1, hw]
theorem thread_ev (cs : List S48) (ps : List S52) (r : Bool) (hf : FineP cs ps) (hc : Ev (fun k => spec_Check.f k cs ps) r) (hok : r = true → ∀ f ∈ ps, f.f3.length ≤ 20000 ∧ ∀ x ∈ f.f3, FineIns f.f3.length x) :
  Ev (fun k => spec_Thread.f k cs ps) (if r = true then (cs, ps.map thrP) else ([], [])) := by
 unfold spec_Thread.f
 refine Ev.bind hc ?_
 cases r with
 | false => exact Ev.congr (fun k => if_neg (by simp)) (Ev.now _)
 | true =>
  have hok := hok rfl
  refine Ev.congr (fun k => if_pos rfl) ?_
  refine Ev.bind (l5copy_ev cs ps hf) ?_
  have key := Ev.up (F := fun k i => spec_Thread.l0 k (i : Int) cs ps cs ((ps.take i).map thrP ++ ps.drop i)) (r := (cs, ps.map thrP)) ps.length (fun i hi e => ?_) ?_ 0 (Nat.zero_le _)
  ·
   simpa using key
  ·
   obtain ⟨hl, hx⟩ := hok ps[i] (List.getElem_mem hi)
   have hr : rd_T52 ps (i : Int) = ps[i] := getD_nat _ _ _ hi
   have hd : ps.drop i = ps[i] :: ps.drop (i + 1) := List.drop_eq_getElem_cons hi
   have ht : (ps.take (i + 1)).map thrP = (ps.take i).map thrP ++ [thrP ps[i]] := by rw [List.take_succ_eq_append_getElem hi, List.map_append]; rfl
   have hli : ((ps.take i).map thrP).length = i := by simp; omega
   rw [ht, List.append_assoc] at e
   generalize ps[i] = f at *
   have inner := Ev.up (F := fun k j => spec_Thread.l1 k (i : Int) f.f3 (j : Int) cs ps cs ((ps.take i).map thrP ++ ⟨f.f0, f.f1, f.f2, (f.f3.take j).map (thrI f.f3) ++ f.f3.drop j⟩ :: ps.drop (i + 1))) (r := (cs, ps.map thrP)) f.f3.length (fun j hj e1 => ?_) ?_ 0 (Nat.zero_le _)
   ·
    refine Ev.step (f := fun k => spec_Thread.l1 k (i : Int) f.f3 0 cs ps cs ((ps.take i).map thrP ++ f :: ps.drop (i + 1))) (fun k => ?_) (by simpa using inner)
    rw [spec_Thread.l0, if_pos (by omega), if_pos (by omega), hr, hd]
   ·
    have hdj : f.f3.drop j = f.f3[j] :: f.f3.drop (j + 1) := List.drop_eq_getElem_cons hj
    have htj : (f.f3.take (j + 1)).map (thrI f.f3) = (f.f3.take j).map (thrI f.f3) ++ [thrI f.f3 f.f3[j]] := by rw [List.take_succ_eq_append_getElem hj, List.map_append]; rfl
    rw [htj, List.append_assoc] at e1
    rw [hdj]
    exact thr_step cs cs ps i j f f.f3[j] _ _ _ _ hli (by simp; omega) _ hj rfl hl hx e1 (by simp; omega)
   ·
    refine Ev.step (f := fun k => spec_Thread.l0 k ((i + 1 : Nat) : Int) cs ps cs ((ps.take i).map thrP ++ ([thrP f] ++ ps.drop (i + 1)))) (fun k => ?_) e
    rw [spec_Thread.l1, if_neg (by omega), wrapN hi (by have := hf.2.1; omega), List.take_length, List.drop_length, List.append_nil]
    rfl
  ·
   refine Ev.step (f := fun _ => some (cs, ps.map thrP)) (fun k => ?_) (Ev.now _)
   rw [spec_Thread.l0, if_neg (by omega), List.take_length, List.drop_length, List.append_nil]
end Go.Proofs.Ytmmpiojekgfdjaa.C
