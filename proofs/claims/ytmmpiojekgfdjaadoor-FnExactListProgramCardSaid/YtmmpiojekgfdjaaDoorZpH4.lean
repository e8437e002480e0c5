/- The checker, part 4: contracts of functions of the program that the printer does not take. -/
import Derived.Test.YtmmpiojekgfdjaaDoorZpH3
import Derived.WalkKit
import Derived.Deep.LoopGhost
import Derived.Deep.QuietTactic
import Derived.BigQuiet
import Derived.Deep.DeepCutAuto
import Derived.Deep.RegionHeld3
import Derived.Laws.Rows
import Derived.StillTactics
import Derived.StillTailTactics
import Derived.LoopTactic
import Derived.RegionTactic
import Derived.BigRegion
import Derived.Outline
import Derived.Maps.OwnOps
import Derived.Maps.OwnSet
import Derived.WalkSpells
import Derived.Laws.EntriesVeiled
import Derived.Laws.Tables
import Derived.Deep.RegionLaw
import Derived.ChangeAlike
import Derived.Test.YtmmpiojekgfdjaaDoorZpK
namespace Go.Proofs.YtmmpiojekgfdjaaDoor.C
open Go.RowKit YtmmpiojekgfdjaaDoorW.PrintWords YtmmpiojekgfdjaaDoorW.PrintLast
set_option linter.unusedVariables false
set_option linter.unusedSimpArgs false
def TabAt (w : World) (g : Nat) : Prop := ∃ t, w.heap[g]? = some (.cells rowsV t (0, 0))
theorem TabAt.below {w w1 : World} {g : Nat} (h : TabAt w g) (hb : Below w.heap.size w w1) : TabAt w1 g := by
 obtain ⟨t, h⟩ := h
 exact ⟨t, (hb.block g (zlY h)).trans h⟩
theorem rowsV_get : ∀ op : Fin 28, rowsV[op.val * 5]? = some (.string (rowW op.val)) ∧ rowsV[op.val * 5 + 1]? = some (.int .u8 (rowA op.val)) ∧ rowsV[op.val * 5 + 2]? = some (.int .u8 (rowB op.val)) ∧ rowsV[op.val * 5 + 3]? = some (.int .i64 (rowT op.val)) ∧ rowsV[op.val * 5 + 4]? = some (.int .i64 (rowL op.val)) := by
 rintro ⟨op, h⟩
 match op, h with
 | 0, _ | 1, _ | 2, _ | 3, _ | 4, _ | 5, _ | 6, _ | 7, _ | 8, _ | 9, _ | 10, _ | 11, _ | 12, _ | 13, _ | 14, _ | 15, _ | 16, _ | 17, _ | 18, _ | 19, _ | 20, _ | 21, _ | 22, _ | 23, _ | 24, _ | 25, _ | 26, _ | 27, _ => exact ⟨by kernel_rfl, by kernel_rfl, by kernel_rfl, by kernel_rfl, by kernel_rfl⟩
 | n + 28, h => omega
theorem TabAt.row {w : World} {g : Nat} (h : TabAt w g) (op : Nat) (hop : op < 28) :
  w.cell? ⟨g, op * 5, none⟩ = some (.string (rowW op)) ∧ w.cell? ⟨g, op * 5 + 1, none⟩ = some (.int .u8 (rowA op)) ∧ w.cell? ⟨g, op * 5 + 2, none⟩ = some (.int .u8 (rowB op)) ∧
  w.cell? ⟨g, op * 5 + 3, none⟩ = some (.int .i64 (rowT op)) ∧ w.cell? ⟨g, op * 5 + 4, none⟩ = some (.int .i64 (rowL op)) := by
 obtain ⟨t, h⟩ := h
 have hr := rowsV_get ⟨op, hop⟩
 have hc := fun j => cell_of_row w g j rowsV t (0, 0) h
 exact ⟨(hc _).trans hr.1, (hc _).trans hr.2.1, (hc _).trans hr.2.2.1, (hc _).trans hr.2.2.2.1, (hc _).trans hr.2.2.2.2⟩
set_option maxHeartbeats 8000000 in
set_option maxRecDepth 100000 in
theorem goodIns_low (A0 A1 : Option Addr) (n0 c0 n1 c1 : Nat) (ad : Addr) (g : Nat) (op a b : Int) (w : World) (h : op < 0 ∨ 28 ≤ op) :
  Calls Tryd.prog 44 #[.agg #[.slice A0 n0 c0, .slice A1 n1 c1], .pointer (some ad), .agg #[.int .i64 op, .int .i64 a, .int .i64 b], .pointer (some ⟨g, 0, none⟩)] w fun e w' => e = .returned (.bool false) ∧ Below w.heap.size w w' := by
 by_cases h1 : op < 0
 ·
  have q1 : decide (op < 0) = true := decide_eq_true h1
  clear h h1
  go_enter Tryd.func44, Tryd.ntmps44
  go_wp2
  go_ret
  exact ⟨rfl, ((Below.refl _ _).alloc (Nat.le_refl _) _).alloc (by simp) _⟩
 ·
  have q1 : decide (op < 0) = false := decide_eq_false h1
  have q2 : decide (28 ≤ op) = true := decide_eq_true (by omega)
  clear h h1
  go_enter Tryd.func44, Tryd.ntmps44
  go_wp2
  go_ret
  exact ⟨rfl, ((Below.refl _ _).alloc (Nat.le_refl _) _).alloc (by simp) _⟩
theorem wp_region_below {P : Program} {id : Nat} {Q : Exit → Act → World → Prop} {a : Act} {w : World} {l : List Oper} (hm : P.follows .mixedOrders = true) (hB : Region.lexB .any l.toArray = true)
  (h : wpQuiet P l.toArray (fun w' => Below w.heap.size w w') (fun a' => ∀ w', Below w.heap.size w w' → Q .normal a' w') l a) : (Code.region id l.toArray true).wp P Q a w :=
 wp_region_quiet (C := fun w' => Below w.heap.size w w') hm hB (below_drew (Below.refl _ _)) (by simpa using h)
theorem cellB {w : World} {p : Addr} {v : Value} (h : w.cell? p = some v) : ∀ w', Below w.heap.size w w' → w'.cell? p = some v := fun _ hb => zdY hb h
def insBad (op : Nat) (a b : Int) (nc : Nat) (ps : List S45) (s : Int) (n2 n3 : Nat) : Bool :=
 decide (a < 0) || (decide (boundV (rowA op) nc ps.length s n2 n3 ≤ a) || (decide (b < 0) || decide (boundV (rowB op) nc ps.length s n2 n3 ≤ b)))
def capsOver (l : List S48) (n2 : Nat) (s : Int) : Bool := l.any fun c => decide ((if c.f0 = true then (n2 : Int) else s) ≤ c.f1)
def goodInsB (op a b : Int) (nc : Nat) (ps : List S45) (s : Int) (n2 n3 : Nat) : Bool :=
 if op < 0 ∨ 28 ≤ op then false else if insBad op.toNat a b nc ps s n2 n3 = true then false
 else if op = 10 then (if a = 0 then false else !(capsOver (rd_T45 ps a).f2 n2 s)) else true
theorem goodInsB_nat (op : Nat) (h : op < 28) (a b : Int) (nc : Nat) (ps : List S45) (s : Int) (n2 n3 : Nat) : goodInsB op a b nc ps s n2 n3 = if insBad op a b nc ps s n2 n3 = true then false
 else if op = 10 then (if a = 0 then false else !(capsOver (rd_T45 ps a).f2 n2 s)) else true := by
 unfold goodInsB
 rw [if_neg (by omega), Int.toNat_natCast]
 congr 1
 by_cases h10 : op = 10
 ·
  rw [if_pos h10, if_pos (by omega)]
 ·
  rw [if_neg h10, if_neg (by omega)]
set_option maxHeartbeats 8000000 in
set_option maxRecDepth 100000 in
theorem goodIns_any (A0 A1 : Option Addr) (n0 c0 c1 : Nat) (ps : List S45) (ad : Addr) (p s : Int) (A2 : Option Addr) (n2 c2 : Nat) (A3 : Option Addr) (n3 c3 : Nat) (g : Nat) (op : Nat) (a b : Int) (w : World) (hop : op < 28)
  (hr1 : Kd.C k45 w A1 ps.length ps) (hc1 : ps.length ≤ c1) (hp : ProtoAt w ad p s A2 n2 c2 A3 n3 c3) (ht : TabAt w g) :
  Calls Tryd.prog 44 #[.agg #[.slice A0 n0 c0, .slice A1 ps.length c1], .pointer (some ad), .agg #[.int .i64 (op : Int), .int .i64 a, .int .i64 b], .pointer (some ⟨g, 0, none⟩)] w fun e w' => e = .returned (.bool (goodInsB op a b n0 ps s n2 n3)) ∧ Below w.heap.size w w' := by
 have HR1 := amZ hr1
 have HC1 := amZ hc1
 have HP := amZ hp
 have HT := amZ ht
 have HG : Aside0 (g < w.heap.size) := ⟨by obtain ⟨_, h⟩ := ht; exact zlY h⟩
 have p1 : 0 ≤ (op : Int) := by omega
 have p2 : (op : Int) < 28 := by omega
 have q1 : decide ((op : Int) < 0) = false := decide_eq_false (by omega)
 have q2 : decide (28 ≤ (op : Int)) = false := decide_eq_false (by omega)
 have q3 : decide (28 ≤ op) = false := decide_eq_false (by omega)
 have HW : ∀ W : World, Below w.heap.size w W → TabAt W g := fun W hb => ht.below hb
 have HWA := amZ HW
 have HOP := amZ hop
 clear hr1 hc1 hp ht HW
 have hrow := (HWA.out _ (((Below.refl _ _).alloc (Nat.le_refl _) (.cells #[.slice A0 n0 c0, .slice A1 ps.length c1] 32)).alloc (by simp) (.cells #[.int .i64 (op : Int), .int .i64 a, .int .i64 b] 51))).row op hop
 obtain ⟨t0, t1, t2, t3, t4⟩ := hrow
 have hrow2 := (HWA.out _ ((((Below.refl _ _).alloc (Nat.le_refl _) (.cells #[.slice A0 n0 c0, .slice A1 ps.length c1] 32)).alloc (by simp) (.cells #[.int .i64 (op : Int), .int .i64 a, .int .i64 b] 51)).alloc (by simp; omega) (.cells #[.string ⟨#[]⟩, .int .u8 0, .int .u8 0, .int .i64 0, .int .i64 0] 65))).row op hop
 obtain ⟨s0, s1, s2, s3, s4⟩ := hrow2
 clear hop
 go_enter Tryd.func44, Tryd.ntmps44
 go_wp2
 go_region
 go_wp2
 obtain ⟨W, hW⟩ : ∃ W, W = (((w.alloc (.cells #[.slice A0 n0 c0, .slice A1 ps.length c1] 32)).alloc (.cells #[.int .i64 (op : Int), .int .i64 a, .int .i64 b] 51)).alloc (.cells #[.string (rowW op), .int .u8 (rowA op), .int .u8 (rowB op), .int .i64 (rowT op), .int .i64 (rowL op)] 65)).drew := ⟨_, rfl⟩
 have hBW : Below w.heap.size w W := by rw [hW]; exact below_drew ((((Below.refl _ _).alloc (Nat.le_refl _) _).alloc (by simp) _).alloc (by simp; omega) _)
 obtain ⟨bp, hbp⟩ : ∃ b, b = w.heap.size := ⟨_, rfl⟩
 obtain ⟨bx, hbx⟩ : ∃ b, b = w.heap.size + 1 := ⟨_, rfl⟩
 obtain ⟨br, hbr⟩ : ∃ b, b = w.heap.size + 1 + 1 := ⟨_, rfl⟩
 have KP : Aside0 (W.heap[bp]? = some (.cells #[.slice A0 n0 c0, .slice A1 ps.length c1] 32 (0, 0))) := ⟨by rw [hW, hbp, heap_drew, heap_alloc_old _ _ (by simp; omega), heap_alloc_old _ _ (by simp), heap_alloc_new]⟩
 have KX : Aside0 (W.heap[bx]? = some (.cells #[.int .i64 (op : Int), .int .i64 a, .int .i64 b] 51 (0, 0))) := ⟨by rw [hW, hbx, heap_drew, heap_alloc_old _ _ (by simp), show w.heap.size + 1 = (w.alloc (.cells #[.slice A0 n0 c0, .slice A1 ps.length c1] 32)).heap.size by simp, heap_alloc_new]⟩
 have KR : Aside0 (W.heap[br]? = some (.cells #[.string (rowW op), .int .u8 (rowA op), .int .u8 (rowB op), .int .i64 (rowT op), .int .i64 (rowL op)] 65 (0, 0))) := ⟨by rw [hW, hbr, heap_drew, show w.heap.size + 1 + 1 = ((w.alloc (.cells #[.slice A0 n0 c0, .slice A1 ps.length c1] 32)).alloc (.cells #[.int .i64 (op : Int), .int .i64 a, .int .i64 b] 51)).heap.size by simp, heap_alloc_new]⟩
 rw [← hW, ← hbr, ← hbx, ← hbp]
 have HBW := amZ hBW
 clear hBW hW hbp hbx hbr t0 t1 t2 t3 t4 s0 s1 s2 s3 s4
 have x1 : W.cell? ⟨bx, 1, none⟩ = some (.int .i64 a) := (zaY KX.out 1).trans rfl
 have x2 : W.cell? ⟨bx, 2, none⟩ = some (.int .i64 b) := (zaY KX.out 2).trans rfl
 have y0 : W.cell? ⟨bp, 0, none⟩ = some (.slice A0 n0 c0) := (zaY KP.out 0).trans rfl
 have y1 : W.cell? ⟨bp, 1, none⟩ = some (.slice A1 ps.length c1) := (zaY KP.out 1).trans rfl
 have z1 : W.cell? ⟨br, 1, none⟩ = some (.int .u8 (rowA op)) := (zaY KR.out 1).trans rfl
 have z2 : W.cell? ⟨br, 2, none⟩ = some (.int .u8 (rowB op)) := (zaY KR.out 2).trans rfl
 have nx := World.new_ne W _ x1
 have ny := World.new_ne W _ y1
 have nz := World.new_ne W _ z1
 go_cut [54] (fun v54 wc => v54 = .bool (insBad op a b n0 ps s n2 n3) ∧ Aside0 (Below w.heap.size w wc) ∧ Aside0 (wc.heap[bp]? = some (.cells #[.slice A0 n0 c0, .slice A1 ps.length c1] 32 (0, 0))) ∧ Aside0 (wc.heap[bx]? = some (.cells #[.int .i64 (op : Int), .int .i64 a, .int .i64 b] 51 (0, 0))))
 case first =>
  have F1 := cellB x1
  have F2 := cellB x2
  have F3 := cellB y0
  have F4 := cellB y1
  have F5 := cellB z1
  have F6 := cellB z2
  clear x1 x2 y0 y1 z1 z2 nx ny nz
  by_cases ca : a < 0
  ·
   have d1 : decide (a < 0) = true := decide_eq_true ca
   have E : Aside0 (insBad op a b n0 ps s n2 n3 = true) := ⟨by simp [insBad, ca]⟩
   clear ca
   refine wp_region_below (by kernel_rfl) (by kernel_rfl) ?_
   repeat (go_big_quiet_step ((first | (intro hC; with_reducible rfl) | (intro hC; go_at_call 63; refine (bound_calls A0 A1 n0 c0 ps.length c1 ad p s A2 n2 c2 A3 n3 c3 _ _ (HP.out.below (zcY HBW.out hC))).mono ?_; rintro e w' ⟨rfl, rfl⟩; exact ⟨rfl, below_alloc hC _⟩) | (intro hC; simp [go_sem, F1 _ hC, F2 _ hC, F3 _ hC, F4 _ hC, F5 _ hC, F6 _ hC]; with_reducible rfl))))
   refine wpQuiet_nil ?_
   intro W' hW'
   go_wp2_with fail
   go_meet
   case rel => exact ⟨by rw [E.out], ⟨zcY HBW.out hW'⟩, ⟨(hW'.block _ (zlY KP.out)).trans KP.out⟩, ⟨(hW'.block _ (zlY KX.out)).trans KX.out⟩⟩
  have d1 : decide (a < 0) = false := decide_eq_false ca
  by_cases cb : boundV (rowA op) n0 ps.length s n2 n3 ≤ a
  ·
   have d2 : decide (boundV (rowA op) n0 ps.length s n2 n3 ≤ a) = true := decide_eq_true cb
   have E : Aside0 (insBad op a b n0 ps s n2 n3 = true) := ⟨by simp [insBad, cb]⟩
   clear ca cb
   refine wp_region_below (by kernel_rfl) (by kernel_rfl) ?_
   repeat (go_big_quiet_step ((first | (intro hC; with_reducible rfl) | (intro hC; go_at_call 63; refine (bound_calls A0 A1 n0 c0 ps.length c1 ad p s A2 n2 c2 A3 n3 c3 _ _ (HP.out.below (zcY HBW.out hC))).mono ?_; rintro e w' ⟨rfl, rfl⟩; exact ⟨rfl, below_alloc hC _⟩) | (intro hC; simp [go_sem, F1 _ hC, F2 _ hC, F3 _ hC, F4 _ hC, F5 _ hC, F6 _ hC]; with_reducible rfl))))
   refine wpQuiet_nil ?_
   intro W' hW'
   go_wp2_with fail
   go_meet
   case rel => exact ⟨by rw [E.out], ⟨zcY HBW.out hW'⟩, ⟨(hW'.block _ (zlY KP.out)).trans KP.out⟩, ⟨(hW'.block _ (zlY KX.out)).trans KX.out⟩⟩
  have d2 : decide (boundV (rowA op) n0 ps.length s n2 n3 ≤ a) = false := decide_eq_false cb
  by_cases cc : b < 0
  ·
   have d3 : decide (b < 0) = true := decide_eq_true cc
   have E : Aside0 (insBad op a b n0 ps s n2 n3 = true) := ⟨by simp [insBad, cc]⟩
   clear ca cb cc
   refine wp_region_below (by kernel_rfl) (by kernel_rfl) ?_
   repeat (go_big_quiet_step ((first | (intro hC; with_reducible rfl) | (intro hC; go_at_call 63; refine (bound_calls A0 A1 n0 c0 ps.length c1 ad p s A2 n2 c2 A3 n3 c3 _ _ (HP.out.below (zcY HBW.out hC))).mono ?_; rintro e w' ⟨rfl, rfl⟩; exact ⟨rfl, below_alloc hC _⟩) | (intro hC; simp [go_sem, F1 _ hC, F2 _ hC, F3 _ hC, F4 _ hC, F5 _ hC, F6 _ hC]; with_reducible rfl))))
   refine wpQuiet_nil ?_
   intro W' hW'
   go_wp2_with fail
   go_meet
   case rel => exact ⟨by rw [E.out], ⟨zcY HBW.out hW'⟩, ⟨(hW'.block _ (zlY KP.out)).trans KP.out⟩, ⟨(hW'.block _ (zlY KX.out)).trans KX.out⟩⟩
  ·
   have d3 : decide (b < 0) = false := decide_eq_false cc
   have E : Aside0 (insBad op a b n0 ps s n2 n3 = decide (boundV (rowB op) n0 ps.length s n2 n3 ≤ b)) := ⟨by simp [insBad, ca, cb, cc]⟩
   clear ca cb cc
   refine wp_region_below (by kernel_rfl) (by kernel_rfl) ?_
   repeat (go_big_quiet_step ((first | (intro hC; with_reducible rfl) | (intro hC; go_at_call 63; refine (bound_calls A0 A1 n0 c0 ps.length c1 ad p s A2 n2 c2 A3 n3 c3 _ _ (HP.out.below (zcY HBW.out hC))).mono ?_; rintro e w' ⟨rfl, rfl⟩; exact ⟨rfl, below_alloc hC _⟩) | (intro hC; simp [go_sem, F1 _ hC, F2 _ hC, F3 _ hC, F4 _ hC, F5 _ hC, F6 _ hC]; with_reducible rfl))))
   refine wpQuiet_nil ?_
   intro W' hW'
   go_wp2_with fail
   go_meet
   case rel => exact ⟨by rw [E.out], ⟨zcY HBW.out hW'⟩, ⟨(hW'.block _ (zlY KP.out)).trans KP.out⟩, ⟨(hW'.block _ (zlY KX.out)).trans KX.out⟩⟩
 case rest =>
  clear x1 x2 y0 y1 z1 z2 nx ny nz KP KX KR HBW
  obtain ⟨rfl, HB, KP, KX⟩ := hcut
  have hg := goodInsB_nat op HOP.out a b n0 ps s n2 n3
  cases hb : insBad op a b n0 ps s n2 n3 with
  | true =>
   rw [hb, if_pos rfl] at hg
   have HG2 := amZ hg
   clear hg hb
   go_wp2
   go_ret
   exact ⟨ret_bool HG2.out.symm, HB.out⟩
  | false =>
   rw [hb, if_neg (by simp)] at hg
   have hx0 : wc.cell? ⟨bx, 0, none⟩ = some (.int .i64 (op : Int)) := (zaY KX.out 0).trans rfl
   have hx1 : wc.cell? ⟨bx, 1, none⟩ = some (.int .i64 a) := (zaY KX.out 1).trans rfl
   by_cases h10 : op = 10
   ·
    rw [if_pos h10] at hg
    subst h10
    have n10 : ((10 : Nat) : Int) = 10 := rfl
    rw [n10] at hx0 KX
    have m10 : ((10 : Int) != 10) = false := by decide
    have m11 : ((10 : Int) == 10) = true := by decide
    have hrange : 0 ≤ a ∧ a < (ps.length : Int) := by
     simp only [insBad, Bool.or_eq_false_iff, decide_eq_false_iff_not] at hb
     have e : boundV (rowA 10) n0 ps.length s n2 n3 = ps.length := by simp [boundV, rowA]
     rw [e] at hb
     omega
    clear hb
    by_cases a0 : a = 0
    ·
     rw [if_pos a0] at hg
     have HG2 := amZ hg
     have z0 := eqb a0
     clear hg a0 hrange
     go_wp2
     go_ret
     exact ⟨ret_bool HG2.out.symm, HB.out⟩
    ·
     rw [if_neg a0] at hg
     have z0 := neb a0
     obtain ⟨adp, B2, e2, B3, e3, eA, hp0, hp1, hp2, hp3, hl2, hi2, hl3, hi3⟩ := at_T45 HR1.out a hrange.1 hrange.2
     cases eA
     replace hp2 := zdY HB.out hp2
     have hw1 := (HP.out.below HB.out).c1
     have hw2 := (HP.out.below HB.out).c2
     obtain ⟨cs, hcs⟩ : ∃ cs, cs = (rd_T45 ps a).f2 := ⟨_, rfl⟩
     rw [← hcs] at hg hp2 hl2 hi2
     have HG2 := amZ hg
     have HI := amZ hi2
     have HL := amZ hl2
     have HN := amZ hi2.2.1
     have ra := eq_true hrange.1
     have rb := eq_true hrange.2
     have y1 : wc.cell? ⟨bp, 1, none⟩ = some (.slice (some adp) ps.length c1) := (zaY KP.out 1).trans rfl
     clear hg hi2 hl2 hcs a0 hrange hp0 hp1 hp3 hl3 hi3
     have HBC := HB
     go_wp2
     clear y1 hp2 hw1 hw2 hx0 hx1 HB KP KX
     go_loopg [69] cs.length (fun gq v69 wr => ∃ (j : Nat), v69 = .int .i64 (j : Int) ∧ Aside0 (j + gq = cs.length) ∧ Aside0 (capsOver (cs.drop j) n2 s = capsOver cs n2 s) ∧ Aside0 (Below w.heap.size w wr))
     case atStart => exact ⟨0, rfl, ⟨by omega⟩, ⟨by simp⟩, ⟨by repeat (first | exact HBC.out | apply below_alloc | apply below_drew | apply pw_below_drewN)⟩⟩
     case round =>
      obtain ⟨j, rfl, hj, hi, HB⟩ := hrel
      have hw1 := (HP.out.below HB.out).c1
      have hw2 := (HP.out.below HB.out).c2
      by_cases hlt : j < cs.length
      ·
       have p0 : 0 ≤ (j : Int) := by omega
       have q0 : (j : Int) < (cs.length : Int) := by omega
       obtain ⟨adc, e, hc0, hc1⟩ := at_T48 HI.out (j : Int) p0 q0
       cases e
       rw [rdT54_nat cs j hlt, Int.toNat_natCast] at hc0 hc1
       obtain ⟨c, hc⟩ : ∃ c, c = cs[j] := ⟨_, rfl⟩
       rw [← hc] at hc0 hc1
       have hd : cs.drop j = c :: cs.drop (j + 1) := by rw [List.drop_eq_getElem_cons hlt, hc]
       have HIJ : Aside0 ((decide ((if c.f0 = true then (n2 : Int) else s) ≤ c.f1) || capsOver (cs.drop (j + 1)) n2 s) = capsOver cs n2 s) := ⟨by have := hi.out; rw [hd] at this; exact this⟩
       clear hd hc hi
       replace hc0 := zdY HB.out hc0
       replace hc1 := zdY HB.out hc1
       have hdl : decide ((j : Int) < (cs.length : Int)) = true := decide_eq_true q0
       have hdn : decide (j < cs.length) = true := decide_eq_true hlt
       replace p0 := eq_true p0
       replace q0 := eq_true q0
       have HLT := amZ hlt
       clear hlt
       obtain ⟨m, hm⟩ : ∃ m, m = (if c.f0 = true then (n2 : Int) else s) := ⟨_, rfl⟩
       rw [← hm] at HIJ
       cases hf : c.f0 with
       | true =>
        rw [hf] at hm hc0
        have hm2 : m = (n2 : Int) := by rw [hm]; simp
        rw [hm2] at HIJ
        have HFF := amZ hf
        clear hf hm hm2
        have hv1 := (HP.out.below (below_alloc HB.out (.cells #[.bool true, .int .i64 c.f1] 48))).c1
        have hv2 := (HP.out.below (below_alloc HB.out (.cells #[.bool true, .int .i64 c.f1] 48))).c2
        by_cases hov : (n2 : Int) ≤ c.f1
        ·
         have dov : decide ((n2 : Int) ≤ c.f1) = true := decide_eq_true hov
         have HJ : Aside0 (capsOver cs n2 s = true) := ⟨by rw [← HIJ.out, dov]; rfl⟩
         clear HIJ hov
         go_wp2
         go_ret
         exact ⟨ret_bool (by rw [HG2.out, HJ.out]; rfl), by repeat (first | exact HB.out | apply below_alloc | apply below_drew | apply pw_below_drewN)⟩
        ·
         have dov : decide ((n2 : Int) ≤ c.f1) = false := decide_eq_false hov
         have HJ : Aside0 (capsOver (cs.drop (j + 1)) n2 s = capsOver cs n2 s) := ⟨by rw [← HIJ.out, dov]; rfl⟩
         clear HIJ hov
         go_wp2
         go_roundg (cs.length - (j + 1))
         case measure => have := hj.out; have := HLT.out; omega
         case rel => exact ⟨j + 1, i64_next HLT.out HN.out, ⟨by have := HLT.out; omega⟩, HJ, ⟨by repeat (first | exact HB.out | apply below_alloc | apply below_drew | apply pw_below_drewN)⟩⟩
       | false =>
        rw [hf] at hm hc0
        have hm2 : m = s := by rw [hm]; simp
        rw [hm2] at HIJ
        have HFF := amZ hf
        clear hf hm hm2
        have hv1 := (HP.out.below (below_alloc HB.out (.cells #[.bool false, .int .i64 c.f1] 48))).c1
        have hv2 := (HP.out.below (below_alloc HB.out (.cells #[.bool false, .int .i64 c.f1] 48))).c2
        by_cases hov : s ≤ c.f1
        ·
         have dov : decide (s ≤ c.f1) = true := decide_eq_true hov
         have HJ : Aside0 (capsOver cs n2 s = true) := ⟨by rw [← HIJ.out, dov]; rfl⟩
         clear HIJ hov
         go_wp2
         go_ret
         exact ⟨ret_bool (by rw [HG2.out, HJ.out]; rfl), by repeat (first | exact HB.out | apply below_alloc | apply below_drew | apply pw_below_drewN)⟩
        ·
         have dov : decide (s ≤ c.f1) = false := decide_eq_false hov
         have HJ : Aside0 (capsOver (cs.drop (j + 1)) n2 s = capsOver cs n2 s) := ⟨by rw [← HIJ.out, dov]; rfl⟩
         clear HIJ hov
         go_wp2
         go_roundg (cs.length - (j + 1))
         case measure => have := hj.out; have := HLT.out; omega
         case rel => exact ⟨j + 1, i64_next HLT.out HN.out, ⟨by have := HLT.out; omega⟩, HJ, ⟨by repeat (first | exact HB.out | apply below_alloc | apply below_drew | apply pw_below_drewN)⟩⟩
      ·
       have e0 : (cs.drop j) = [] := List.drop_eq_nil_of_le (by omega)
       have HJ : Aside0 ((!(capsOver cs n2 s)) = true) := ⟨by rw [← hi.out, e0]; rfl⟩
       have hdl : decide ((j : Int) < (cs.length : Int)) = false := decide_eq_false (by omega)
       have hdn : decide (j < cs.length) = false := decide_eq_false hlt
       clear e0 hi hlt
       go_wp2
       go_ret
       exact ⟨ret_bool (HG2.out.trans HJ.out).symm, HB.out⟩
   ·
    rw [if_neg h10] at hg
    have HG2 := amZ hg
    have n10 : ((op : Int) != 10) = true := by simp; omega
    have n11 : ((op : Int) == 10) = false := by simp; omega
    clear hg hb h10
    go_wp2
    go_ret
    exact ⟨ret_bool HG2.out.symm, HB.out⟩
end Go.Proofs.YtmmpiojekgfdjaaDoor.C
