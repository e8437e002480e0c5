/- The checker, part 7: contracts of functions of the program that the printer does not take. -/
import Derived.Test.YtmmpiojekgfdjaaDoorZpH6
import Derived.WalkKit
import Derived.Deep.LoopGhost
import Derived.Deep.QuietTactic
import Derived.BigQuiet
import Derived.Deep.DeepCutAuto
import Derived.Deep.RegionHeld3
import Derived.Laws.Rows
import Derived.StillTactics
import Derived.StillTailTactics
import Derived.LoopTactic
import Derived.RegionTactic
import Derived.BigRegion
import Derived.Outline
import Derived.Maps.OwnOps
import Derived.Maps.OwnSet
import Derived.WalkSpells
import Derived.Laws.EntriesVeiled
import Derived.Laws.Tables
import Derived.Deep.RegionLaw
import Derived.ChangeAlike
import Derived.Test.YtmmpiojekgfdjaaDoorZpK
namespace Go.Proofs.YtmmpiojekgfdjaaDoor.C
open Go.RowKit YtmmpiojekgfdjaaDoorW.PrintWords YtmmpiojekgfdjaaDoorW.PrintLast
set_option linter.unusedVariables false
set_option linter.unusedSimpArgs false
theorem q_nil (w : World) (base : Nat) (e : TypeId) (size : Nat) : QRow w base e size (.slice none 0 0) 0 [] := ⟨by simp, .inl ⟨rfl, none, rfl, fun _ h => by cases h⟩⟩
theorem wf64 {x : Int} (h0 : 0 ≤ x) (h1 : x ≤ 4000001) : (Lit.int .i64 x).wf = true := by
 simp [Lit.wf, IntKind.min, IntKind.max, IntKind.bits, IntKind.signed]
 omega
theorem wrapB {x : Int} (h0 : -9000000000000000000 ≤ x) (h1 : x ≤ 9000000000000000000) : wrap64 x = x := by
 unfold wrap64
 omega
theorem row_bound : ∀ op, op < 28 → 0 ≤ rowT op ∧ rowT op ≤ 3 ∧ 0 ≤ rowL op ∧ rowL op ≤ 1 := by decide
set_option maxHeartbeats 40000000 in
set_option maxRecDepth 100000 in
theorem heights_calls (ad : Addr) (p s : Int) (A2 : Option Addr) (n2 c2 : Nat) (A3 : Option Addr) (c3 g : Nat) (code : List S51) (fuel : Nat) (r : Bool) (w : World) (hp : ProtoAt w ad p s A2 n2 c2 A3 code.length c3)
  (hk : Kd.C k51 w A3 code.length code) (hlen : code.length ≤ 2000000) (ht : TabAt w g) (hr : ghL code fuel [] [(0, 0)] = some r) :
  Calls Tryd.prog 45 #[.pointer (some ad), .pointer (some ⟨g, 0, none⟩)] w fun e w' => e = .returned (.bool r) ∧ Below w.heap.size w w' := by
 have HW : Below w.heap.size w (((w.alloc (.map #[] 0)).alloc (.cells #[.slice none 0 0] 119)).alloc (.cells #[.int .i64 0, .int .i64 0] 122)) := ((Below.refl _ _).alloc (Nat.le_refl _) _).alloc (by simp) _ |>.alloc (by simp; omega) _
 have hq0 : QIs w.heap.size (((w.alloc (.map #[] 0)).alloc (.cells #[.slice none 0 0] 119)).alloc (.cells #[.int .i64 0, .int .i64 0] 122)) (w.heap.size + 1) (.slice none 0 0) [] := by
  refine ⟨?_, q_nil _ _ _ _, by omega⟩
  rw [heap_alloc_old _ _ (by simp), show w.heap.size + 1 = (w.alloc (.map #[] 0)).heap.size by simp, heap_alloc_new]
 have hg0 : GIs w.heap.size (((w.alloc (.map #[] 0)).alloc (.cells #[.slice none 0 0] 119)).alloc (.cells #[.int .i64 0, .int .i64 0] 122)) w.heap.size (w.heap.size + 1) (.slice none 0 0) [] [] :=
  ⟨hq0, ((SeenIs.made w).below ((Below.refl _ _).alloc (Nat.le_refl _) _)).below ((Below.refl _ _).alloc (Nat.le_refl _) _), Nat.le_refl _⟩
 have hx0 : (((w.alloc (.map #[] 0)).alloc (.cells #[.slice none 0 0] 119)).alloc (.cells #[.int .i64 0, .int .i64 0] 122)).heap[w.heap.size + 1 + 1]? = some (.cells (wayCells [(0, 0)]).toArray 122 (0, 0)) := by
  rw [show w.heap.size + 1 + 1 = ((w.alloc (.map #[] 0)).alloc (.cells #[.slice none 0 0] 119)).heap.size by simp, heap_alloc_new]
  rfl
 have hmm := @run_makeMap Tryd.prog
 have HQ0 := amZ hq0
 have HG0 := amZ hg0
 have HX0 := amZ hx0
 have HW0 := amZ HW
 have HP := amZ hp
 have HK := amZ hk
 have HT := amZ ht
 have HR := amZ hr
 have HLEN := amZ hlen
 clear hp hk ht hr hlen hq0 hg0 hx0 HW
 go_enter Tryd.func45, Tryd.ntmps45
 go_wp2_with (first
  | (go_at_call 64; go_loud (refine (put_calls w.heap.size _ _ _ _ [] [(0, 0)] HQ0.out HX0.out (by decide) (by decide)).mono ?_; rintro e w1 ⟨rfl, v1, hq1⟩; have HG1 := amZ (HG0.out.put hq1); have HB1 := amZ (HW0.out.trans hq1.b); clear hq1))
  | (go_at_call 65; refine (take_calls w.heap.size _ _ _ ([] ++ [(0, 0)]) (by decide) HG1.out.q).mono ?_; rintro e w2 ⟨rfl, v2, hq2⟩; have HG2 := amZ (HG1.out.put hq2); have HB2 := amZ (HB1.out.trans hq2.b); clear hq2))
 clear hmm
 go_loopg [7, 8] fuel (fun gq v7 v8 wr => ∃ (todo seen : List (Int × Int)) (v : Value) (bw : Nat), v7 = .pointer (some ⟨bw, 0, none⟩) ∧ v8 = .bool (!todo.isEmpty) ∧ Aside0 (ghL code gq seen todo = some r) ∧
  Aside0 (GIs w.heap.size wr w.heap.size (w.heap.size + 1) v seen todo.tail) ∧ Aside0 (GBlk wr (w.heap.size + 1) v bw #[.int .i64 (qA todo), .int .i64 (qH todo)] 122) ∧ Aside0 (todo.length ≤ 1000000) ∧ Aside0 (Below w.heap.size w wr))
 case atStart => exact ⟨[(0, 0)], [], _, _, rfl, rfl, HR, ⟨HG2.out.alloc _⟩, ⟨HG2.out.newBlk _ _⟩, ⟨by decide⟩, ⟨HB2.out.alloc HG2.out.base _⟩⟩
 case round =>
  obtain ⟨todo, seen, v, bw, rfl, rfl, hr, HG, HBW, hl, HB⟩ := hrel
  clear HG0 HG1 HG2 HB1 HB2 HQ0 HX0 HW0 HR
  cases todo with
  | nil =>
   go_wp2
   go_ret
   exact ⟨ret_bool (ghL_nil hr.out).symm, HB.out⟩
  | cons x rest =>
   obtain ⟨at_, h⟩ := x
   obtain ⟨m, rfl, hrange, hcase⟩ := ghL_cons hr.out
   obtain ⟨r0, r1, r2, r3, r4, r5⟩ := hrange
   clear hr
   have hx0 : wr.cell? ⟨bw, 0, none⟩ = some (.int .i64 at_) := (zaY HBW.out.blk 0).trans rfl
   have hx1 : wr.cell? ⟨bw, 1, none⟩ = some (.int .i64 h) := (zaY HBW.out.blk 1).trans rfl
   have hc3 := (HP.out.below HB.out).c3
   have F1 := cellB hx0
   have F2 := cellB hx1
   have F3 := cellB hc3
   have WF1 : Aside0 ((Lit.int .i64 at_).wf = true) := ⟨wf64 r0 (by omega)⟩
   have WF2 : Aside0 ((Lit.int .i64 h).wf = true) := ⟨wf64 r2 (by omega)⟩
   rcases hcase with ⟨hA, rfl⟩ | ⟨hA, hB, rfl⟩ | ⟨hA, hB, hcase⟩
   ·
    have d1 : decide ((code.length : Int) ≤ at_) = true := decide_eq_true hA
    clear hA
    go_wp2
    refine wp_region_below (by kernel_rfl) (by kernel_rfl) ?_
    repeat (go_big_quiet_step ((first | (intro hC; with_reducible rfl) | (intro hC; simp [go_sem, F1 _ hC, F2 _ hC, F3 _ hC]; with_reducible rfl))))
    refine wpQuiet_nil ?_
    intro W hW
    have HBn := amZ (zcY HB.out hW)
    have HGn := amZ (HG.out.below hW)
    have HWn := amZ (HBW.out.below hW)
    clear HB HG HBW hW F1 F2 F3 hx0 hx1 hc3
    go_wp2
    go_ret
    exact ⟨rfl, HBn.out⟩
   ·
    have d1 : decide ((code.length : Int) ≤ at_) = false := decide_eq_false (by omega)
    have d2 : decide (300 < h) = true := decide_eq_true hB
    clear hA hB
    go_wp2
    refine wp_region_below (by kernel_rfl) (by kernel_rfl) ?_
    repeat (go_big_quiet_step ((first | (intro hC; with_reducible rfl) | (intro hC; simp [go_sem, F1 _ hC, F2 _ hC, F3 _ hC]; with_reducible rfl))))
    refine wpQuiet_nil ?_
    intro W hW
    have HBn := amZ (zcY HB.out hW)
    have HGn := amZ (HG.out.below hW)
    have HWn := amZ (HBW.out.below hW)
    clear HB HG HBW hW F1 F2 F3 hx0 hx1 hc3
    go_wp2
    go_ret
    exact ⟨rfl, HBn.out⟩
   ·
    have d1 : decide ((code.length : Int) ≤ at_) = false := decide_eq_false (by omega)
    have d2 : decide (300 < h) = false := decide_eq_false (by omega)
    go_wp2
    refine wp_region_below (by kernel_rfl) (by kernel_rfl) ?_
    repeat (go_big_quiet_step ((first | (intro hC; with_reducible rfl) | (intro hC; simp [go_sem, F1 _ hC, F2 _ hC, F3 _ hC]; with_reducible rfl))))
    refine wpQuiet_nil ?_
    intro W hW
    have HBn := amZ (zcY HB.out hW)
    have HGn := amZ (HG.out.below hW)
    have HWn := amZ (HBW.out.below hW)
    clear HB HG HBW hW F1 F2 F3 hx0 hx1 hc3
    have x0 : W.cell? ⟨bw, 0, none⟩ = some (.int .i64 at_) := (zaY HWn.out.blk 0).trans rfl
    have x1 : W.cell? ⟨bw, 1, none⟩ = some (.int .i64 h) := (zaY HWn.out.blk 1).trans rfl
    rcases hcase with ⟨h', hl', hcase⟩ | ⟨hl', op, a, b, h1, hrd, hop, ha0, ha1, hb0, hb1, hh1, hcase⟩
    ·
     rcases hcase with ⟨rfl, hr⟩ | ⟨hne, rfl⟩
     ·
      have HR := amZ hr
      have e1 : (h' != h') = false := by simp
      clear hr
      go_wp2_with (first
       | (at_lookup; refine wpList_seen_hit rfl _ _ rfl w.heap.size rfl at_ rfl WF1.out seen HGn.out.s h' hl' ?_)
       | (go_at_call 65; go_loud (refine (take_calls w.heap.size _ _ v rest (by omega) (HGn.out.alloc _).q).mono ?_; rintro e w2 ⟨rfl, v2, hq2⟩; have HG2 := amZ ((HGn.out.alloc _).put hq2); have HW2 := amZ ((HGn.out.newBlk _ _).put hq2); have HB2 := amZ ((HBn.out.alloc HGn.out.base _).trans hq2.b); clear hq2; have k0 := (zaY HW2.out.blk 0).trans rfl; have k1 := (zaY HW2.out.blk 1).trans rfl; have f0 := zbY HW2.out.blk 0; have f1 := zbY HW2.out.blk 1)))
      go_roundg m
      case measure => omega
      case rel =>
       exact ⟨rest, seen, v2, W.heap.size, rfl, rfl, HR, ⟨(HG2.out.store HW2.out 0 _).store (HW2.out.store 0 _) 1 _⟩, ⟨(HW2.out.store 0 _).store 1 _⟩, ⟨by omega⟩, ⟨Below.setCell (Below.setCell HB2.out HGn.out.base _) HGn.out.base _⟩⟩
     ·
      have e1 : (h' == h) = false := neb hne
      have e2 : (h' != h) = true := by simp [hne]
      go_wp2_with (first
       | (at_lookup; refine wpList_seen_hit rfl _ _ rfl w.heap.size rfl at_ rfl WF1.out seen HGn.out.s h' hl' ?_))
      go_ret
      exact ⟨rfl, HBn.out⟩
    ·
     go_wp2_with (first
      | (at_lookup; refine wpList_seen_miss rfl _ _ rfl w.heap.size rfl at_ rfl WF1.out seen HGn.out.s hl' ?_; intro c)
      | (at_mapUpdate; refine wpList_seen_put rfl rfl _ _ _ rfl w.heap.size rfl at_ h rfl rfl WF1.out WF2.out seen HGn.out.s (by simp only [maxLen]; omega) ?_; intro W1 hs1 hg1; have HBm := amZ (HBn.out.grown hg1 HGn.out.base (fun k hk => by injection hk with hk; rw [← hk]; exact Nat.le_refl _)); have HGm := amZ (HGn.out.upd hs1 hg1); have HWm := amZ (HWn.out.upd HGn.out.s hg1); clear hs1 hg1))
     have hc3 := (HP.out.below HBm.out).c3
     have hd3 := (HP.out.below (HBm.out.alloc HGm.out.base (.cells #[.int .i64 0, .int .i64 0, .int .i64 0] 51))).c3
     have x0 : W1.cell? ⟨bw, 0, none⟩ = some (.int .i64 at_) := (zaY HWm.out.blk 0).trans rfl
     have y0 : (W1.alloc (.cells #[.int .i64 0, .int .i64 0, .int .i64 0] 51)).cell? ⟨bw, 0, none⟩ = some (.int .i64 at_) := (zaY (HWm.out.below ((Below.refl _ _).alloc (Nat.le_refl _) _)).blk 0).trans rfl
     obtain ⟨adc, eA, c0, c1, c2⟩ := at_T51 HK.out at_ r0 hA
     cases eA
     simp only [hrd] at c0 c1 c2
     replace c0 := zdY HBm.out c0
     replace c1 := zdY HBm.out c1
     replace c2 := zdY HBm.out c2
     have e0 := zdY ((Below.refl _ _).alloc (Nat.le_refl _) (.cells #[.int .i64 0, .int .i64 0, .int .i64 0] 51)) c0
     have e1 := zdY ((Below.refl _ _).alloc (Nat.le_refl _) (.cells #[.int .i64 0, .int .i64 0, .int .i64 0] 51)) c1
     have e2 := zdY ((Below.refl _ _).alloc (Nat.le_refl _) (.cells #[.int .i64 0, .int .i64 0, .int .i64 0] 51)) c2
     have p0 := eq_true r0
     have p1 := eq_true hA
     have p2 : 0 ≤ (op : Int) := by omega
     have p3 : (op : Int) < 28 := by omega
     go_cut [11] (fun v11 wc => v11 = .pointer (some ⟨W1.heap.size, 0, none⟩) ∧ wc = (W1.alloc (.cells #[.int .i64 (op : Int), .int .i64 a, .int .i64 b] 51)).drew)
     case first =>
      go_region
      all_goals (go_wp2_with fail)
      all_goals go_meet
      all_goals exact ⟨rfl, rfl⟩
     case rest =>
      obtain ⟨rfl, hwc⟩ := hcut
      obtain ⟨wb, hwb⟩ : ∃ x : World, x = wc := ⟨_, rfl⟩
      subst hwb
      have HBc := amZ (show Below w.heap.size w wb by rw [hwc]; exact below_drew (HBm.out.alloc HGm.out.base _))
      have HGc := amZ (show GIs w.heap.size wb w.heap.size (w.heap.size + 1) v ((at_, h) :: seen) rest by rw [hwc]; exact (HGm.out.alloc _).drew)
      have HWc := amZ (show GBlk wb (w.heap.size + 1) v bw #[.int .i64 at_, .int .i64 h] 122 by rw [hwc]; exact HWm.out.below (below_drew ((Below.refl _ _).alloc (Nat.le_refl _) _)))
      have HXc := amZ (show GBlk wb (w.heap.size + 1) v W1.heap.size #[.int .i64 (op : Int), .int .i64 a, .int .i64 b] 51 by rw [hwc]; exact (HGm.out.newBlk _ _).below (below_drew (Below.refl _ _)))
      obtain ⟨bx, hbx⟩ : ∃ b, b = W1.heap.size := ⟨_, rfl⟩
      rw [← hbx] at HXc ⊢
      clear hwc hbx HBm HGm HWm c0 c1 c2 e0 e1 e2 x0 y0 hc3 hd3 p0 p1
      have x0 : wb.cell? ⟨bx, 0, none⟩ = some (.int .i64 (op : Int)) := (zaY HXc.out.blk 0).trans rfl
      have y0 : (wb.alloc (.cells #[.string ⟨#[]⟩, .int .u8 0, .int .u8 0, .int .i64 0, .int .i64 0] 65)).cell? ⟨bx, 0, none⟩ = some (.int .i64 (op : Int)) := (zaY (HXc.out.below ((Below.refl _ _).alloc (Nat.le_refl _) _)).blk 0).trans rfl
      obtain ⟨t0, t1, t2, t3, t4⟩ := (HT.out.below HBc.out).row op hop
      obtain ⟨s0, s1, s2, s3, s4⟩ := (HT.out.below (HBc.out.alloc HGc.out.base (.cells #[.string ⟨#[]⟩, .int .u8 0, .int .u8 0, .int .i64 0, .int .i64 0] 65))).row op hop
      go_wp2_with fail
      go_cut [12] (fun v12 wd => v12 = .pointer (some ⟨wb.heap.size, 0, none⟩) ∧ wd = (wb.alloc (.cells #[.string (rowW op), .int .u8 (rowA op), .int .u8 (rowB op), .int .i64 (rowT op), .int .i64 (rowL op)] 65)).drew)
      case first =>
       go_region
       all_goals (go_wp2_with fail)
       all_goals go_meet
       all_goals exact ⟨rfl, rfl⟩
      case rest =>
       obtain ⟨rfl, hwd⟩ := hcut
       have HBd := amZ (show Below w.heap.size w wc by rw [hwd]; exact below_drew (HBc.out.alloc HGc.out.base _))
       have HGd := amZ (show GIs w.heap.size wc w.heap.size (w.heap.size + 1) v ((at_, h) :: seen) rest by rw [hwd]; exact (HGc.out.alloc _).drew)
       have HWd := amZ (show GBlk wc (w.heap.size + 1) v bw #[.int .i64 at_, .int .i64 h] 122 by rw [hwd]; exact HWc.out.below (below_drew ((Below.refl _ _).alloc (Nat.le_refl _) _)))
       have HXd := amZ (show GBlk wc (w.heap.size + 1) v bx #[.int .i64 (op : Int), .int .i64 a, .int .i64 b] 51 by rw [hwd]; exact HXc.out.below (below_drew ((Below.refl _ _).alloc (Nat.le_refl _) _)))
       have HRd := amZ (show GBlk wc (w.heap.size + 1) v wb.heap.size #[.string (rowW op), .int .u8 (rowA op), .int .u8 (rowB op), .int .i64 (rowT op), .int .i64 (rowL op)] 65 by rw [hwd]; exact (HGc.out.newBlk _ _).below (below_drew (Below.refl _ _)))
       obtain ⟨br, hbr⟩ : ∃ b, b = wb.heap.size := ⟨_, rfl⟩
       rw [← hbr] at HRd ⊢
       clear hwd hbr HBc HGc HWc HXc x0 y0 t0 t1 t2 t3 t4 s0 s1 s2 s3 s4
       have x0 : wc.cell? ⟨bx, 0, none⟩ = some (.int .i64 (op : Int)) := (zaY HXd.out.blk 0).trans rfl
       have x1 : wc.cell? ⟨bx, 1, none⟩ = some (.int .i64 a) := (zaY HXd.out.blk 1).trans rfl
       have x2 : wc.cell? ⟨bx, 2, none⟩ = some (.int .i64 b) := (zaY HXd.out.blk 2).trans rfl
       have t3 : wc.cell? ⟨br, 3, none⟩ = some (.int .i64 (rowT op)) := (zaY HRd.out.blk 3).trans rfl
       have t4 : wc.cell? ⟨br, 4, none⟩ = some (.int .i64 (rowL op)) := (zaY HRd.out.blk 4).trans rfl
       have y0 : wc.cell? ⟨bw, 0, none⟩ = some (.int .i64 at_) := (zaY HWd.out.blk 0).trans rfl
       have y1 : wc.cell? ⟨bw, 1, none⟩ = some (.int .i64 h) := (zaY HWd.out.blk 1).trans rfl
       obtain ⟨b0, b1, b2, b3⟩ := row_bound op hop
       have w1 : wrap64 (h - rowT op) = h - rowT op := wrapB (by omega) (by omega)
       have w4 : wrap64 (at_ + 1) = at_ + 1 := wrapB (by omega) (by omega)
       by_cases hc : op = 22
       ·
        have e22 : ((op : Int) == 22) = true := by simp; omega
        have e23 : ((op : Int) == 23) = false := by simp; omega
        have e24 : ((op : Int) == 24) = false := by simp; omega
        have e18 : ((op : Int) == 18) = false := by simp; omega
        have e19 : ((op : Int) == 19) = false := by simp; omega
        have e20 : ((op : Int) == 20) = false := by simp; omega
        have e21 : ((op : Int) == 21) = false := by simp; omega
        have e26 : ((op : Int) == 26) = false := by simp; omega
        have e27 : ((op : Int) == 27) = false := by simp; omega
        have w2 : wrap64 (h - rowT op - a) = h - rowT op - a := wrapB (by omega) (by omega)
        have hh : h1 = h - rowT op - a := by rw [hh1]; simp [h1Of, hc]
        rw [hh] at hcase
        clear hh1
        rcases hcase with ⟨hn, rfl⟩ | ⟨hn, hr⟩
        ·
         have d3 : decide (h - rowT op - a < 0) = true := decide_eq_true hn
         clear hn hc hh b0 b1 b2 b3 p2 p3 ha0 ha1 hb0 hb1 hop
         go_wp2
         go_ret
         exact ⟨rfl, HBd.out⟩
        ·
         have d3 : decide (h - rowT op - a < 0) = false := decide_eq_false (by omega)
         have w5 : wrap64 (h - rowT op - a + rowL op) = h - rowT op - a + rowL op := wrapB (by omega) (by omega)
         have v0 := zdY ((Below.refl _ _).alloc (Nat.le_refl _) (.cells #[.int .i64 (at_ + 1), .int .i64 (h - rowT op - a + rowL op)] 122)) x0
         have v1 := zdY ((Below.refl _ _).alloc (Nat.le_refl _) (.cells #[.int .i64 (at_ + 1), .int .i64 (h - rowT op - a + rowL op)] 122)) x1
         have v2 := zdY ((Below.refl _ _).alloc (Nat.le_refl _) (.cells #[.int .i64 (at_ + 1), .int .i64 (h - rowT op - a + rowL op)] 122)) x2
         have v3 := zdY ((Below.refl _ _).alloc (Nat.le_refl _) (.cells #[.int .i64 (at_ + 1), .int .i64 (h - rowT op - a + rowL op)] 122)) y0
         have v4 := zdY ((Below.refl _ _).alloc (Nat.le_refl _) (.cells #[.int .i64 (at_ + 1), .int .i64 (h - rowT op - a + rowL op)] 122)) y1
         have w8 : wrap64 (h - rowT op - a + rowL op + b) = h - rowT op - a + rowL op + b := wrapB (by omega) (by omega)
         have hputs : putsOf op a b at_ h1 = [(at_ + 1, h - rowT op - a + rowL op + b)] := by rw [hh]; simp [putsOf, hc]
         rw [← hh, hputs] at hr
         have HR := amZ hr
         have HX : Aside0 (((wc.alloc (.cells #[.int .i64 (at_ + 1), .int .i64 (h - rowT op - a + rowL op + b)] 122)).alloc (.cells (wayCells [(at_ + 1, h - rowT op - a + rowL op + b)]).toArray 122)).heap[wc.heap.size + 1]? = some (.cells (wayCells [(at_ + 1, h - rowT op - a + rowL op + b)]).toArray 122 (0, 0))) := ⟨by rw [show wc.heap.size + 1 = (wc.alloc (.cells #[.int .i64 (at_ + 1), .int .i64 (h - rowT op - a + rowL op + b)] 122)).heap.size by simp, heap_alloc_new]⟩
         clear hr hputs hn hc hh b0 b1 b2 b3 p2 p3 ha0 ha1 hb0 hb1 hop
         go_wp2_with (first
          | (go_at_call 64; go_loud (refine (put_calls w.heap.size _ _ _ v rest [(at_ + 1, h - rowT op - a + rowL op + b)] ((HGd.out.alloc _).alloc _).q HX.out (Nat.succ_pos _) (by simp; omega)).mono ?_; rintro e w3 ⟨rfl, v3, hq3⟩; have HG3 := amZ (((HGd.out.alloc _).alloc _).put hq3); have HW3 := amZ ((HWd.out.below (below_alloc (below_alloc (Below.refl _ _) _) _)).put hq3); have HB3 := amZ (((HBd.out.alloc HGd.out.base _).alloc (HGd.out.alloc _).base _).trans hq3.b); clear hq3; have z0 := (zaY HW3.out.blk 0).trans rfl; have z1 := (zaY HW3.out.blk 1).trans rfl))
          | (go_at_call 65; go_loud (refine (take_calls w.heap.size _ _ v3 _ (by simp; omega) (HG3.out.alloc _).q).mono ?_; rintro e w4 ⟨rfl, v4, hq4⟩; have HG4 := amZ ((HG3.out.alloc _).put hq4); have HW4 := amZ ((HG3.out.newBlk _ _).put hq4); have HB4 := amZ ((HB3.out.alloc HG3.out.base _).trans hq4.b); clear hq4; have k0 := (zaY HW4.out.blk 0).trans rfl; have k1 := (zaY HW4.out.blk 1).trans rfl; have f0 := zbY HW4.out.blk 0; have f1 := zbY HW4.out.blk 1)))
         go_roundg m
         case measure => omega
         case rel => exact ⟨rest ++ [(at_ + 1, h - rowT op - a + rowL op + b)], (at_, h) :: seen, v4, w3.heap.size, rfl, by first | rfl | simp, HR, ⟨(HG4.out.store HW4.out 0 _).store (HW4.out.store 0 _) 1 _⟩, ⟨(HW4.out.store 0 _).store 1 _⟩, ⟨by simp; omega⟩, ⟨Below.setCell (Below.setCell HB4.out HG3.out.base _) HG3.out.base _⟩⟩
       have n22 := hc
       clear hc
       by_cases hc : op = 23
       ·
        have e22 : ((op : Int) == 22) = false := by simp; omega
        have e23 : ((op : Int) == 23) = true := by simp; omega
        have e24 : ((op : Int) == 24) = false := by simp; omega
        have e18 : ((op : Int) == 18) = false := by simp; omega
        have e19 : ((op : Int) == 19) = false := by simp; omega
        have e20 : ((op : Int) == 20) = false := by simp; omega
        have e21 : ((op : Int) == 21) = false := by simp; omega
        have e26 : ((op : Int) == 26) = false := by simp; omega
        have e27 : ((op : Int) == 27) = false := by simp; omega
        have w2 : wrap64 (h - rowT op - a) = h - rowT op - a := wrapB (by omega) (by omega)
        have hh : h1 = h - rowT op - a := by rw [hh1]; simp [h1Of, hc]
        rw [hh] at hcase
        clear hh1
        rcases hcase with ⟨hn, rfl⟩ | ⟨hn, hr⟩
        ·
         have d3 : decide (h - rowT op - a < 0) = true := decide_eq_true hn
         clear hn hc hh b0 b1 b2 b3 p2 p3 ha0 ha1 hb0 hb1 hop
         go_wp2
         go_ret
         exact ⟨rfl, HBd.out⟩
        ·
         have d3 : decide (h - rowT op - a < 0) = false := decide_eq_false (by omega)
         have w5 : wrap64 (h - rowT op - a + rowL op) = h - rowT op - a + rowL op := wrapB (by omega) (by omega)
         have v0 := zdY ((Below.refl _ _).alloc (Nat.le_refl _) (.cells #[.int .i64 (at_ + 1), .int .i64 (h - rowT op - a + rowL op)] 122)) x0
         have v1 := zdY ((Below.refl _ _).alloc (Nat.le_refl _) (.cells #[.int .i64 (at_ + 1), .int .i64 (h - rowT op - a + rowL op)] 122)) x1
         have v2 := zdY ((Below.refl _ _).alloc (Nat.le_refl _) (.cells #[.int .i64 (at_ + 1), .int .i64 (h - rowT op - a + rowL op)] 122)) x2
         have v3 := zdY ((Below.refl _ _).alloc (Nat.le_refl _) (.cells #[.int .i64 (at_ + 1), .int .i64 (h - rowT op - a + rowL op)] 122)) y0
         have v4 := zdY ((Below.refl _ _).alloc (Nat.le_refl _) (.cells #[.int .i64 (at_ + 1), .int .i64 (h - rowT op - a + rowL op)] 122)) y1
         have hputs : putsOf op a b at_ h1 = [] := by rw [hh]; simp [putsOf, hc]
         rw [← hh, hputs] at hr
         have HR := amZ hr
         rw [List.append_nil] at HR
         clear hr hputs hn hc hh b0 b1 b2 b3 p2 p3 ha0 ha1 hb0 hb1 hop
         go_wp2_with (first
          | (go_at_call 65; go_loud (refine (take_calls w.heap.size _ _ v rest (by omega) ((HGd.out.alloc _).alloc _).q).mono ?_; rintro e w4 ⟨rfl, v4, hq4⟩; have HG4 := amZ (((HGd.out.alloc _).alloc _).put hq4); have hw4 := ((HGd.out.alloc _).newBlk _ _).put hq4; rw [show (wc.alloc (.cells #[.int .i64 (at_ + 1), .int .i64 (h - rowT op - a + rowL op)] 122)).heap.size = wc.heap.size + 1 by simp] at hw4; have HW4 := amZ hw4; clear hw4; have HB4 := amZ (((HBd.out.alloc HGd.out.base _).alloc (HGd.out.alloc _).base _).trans hq4.b); clear hq4; have k0 := (zaY HW4.out.blk 0).trans rfl; have k1 := (zaY HW4.out.blk 1).trans rfl; have f0 := zbY HW4.out.blk 0; have f1 := zbY HW4.out.blk 1)))
         go_roundg m
         case measure => omega
         case rel => exact ⟨rest, (at_, h) :: seen, v4, wc.heap.size + 1, rfl, by first | rfl | simp, HR, ⟨(HG4.out.store HW4.out 0 _).store (HW4.out.store 0 _) 1 _⟩, ⟨(HW4.out.store 0 _).store 1 _⟩, ⟨by omega⟩, ⟨Below.setCell (Below.setCell HB4.out (Nat.le_succ_of_le HGd.out.base) _) (Nat.le_succ_of_le HGd.out.base) _⟩⟩
       have n23 := hc
       clear hc
       by_cases hc : op = 24
       ·
        have e22 : ((op : Int) == 22) = false := by simp; omega
        have e23 : ((op : Int) == 23) = false := by simp; omega
        have e24 : ((op : Int) == 24) = true := by simp; omega
        have e18 : ((op : Int) == 18) = false := by simp; omega
        have e19 : ((op : Int) == 19) = false := by simp; omega
        have e20 : ((op : Int) == 20) = false := by simp; omega
        have e21 : ((op : Int) == 21) = false := by simp; omega
        have e26 : ((op : Int) == 26) = false := by simp; omega
        have e27 : ((op : Int) == 27) = false := by simp; omega
        have w2 : wrap64 (h - rowT op - a) = h - rowT op - a := wrapB (by omega) (by omega)
        have hh : h1 = h - rowT op - a := by rw [hh1]; simp [h1Of, hc]
        rw [hh] at hcase
        clear hh1
        rcases hcase with ⟨hn, rfl⟩ | ⟨hn, hr⟩
        ·
         have d3 : decide (h - rowT op - a < 0) = true := decide_eq_true hn
         clear hn hc hh b0 b1 b2 b3 p2 p3 ha0 ha1 hb0 hb1 hop
         go_wp2
         go_ret
         exact ⟨rfl, HBd.out⟩
        ·
         have d3 : decide (h - rowT op - a < 0) = false := decide_eq_false (by omega)
         have w5 : wrap64 (h - rowT op - a + rowL op) = h - rowT op - a + rowL op := wrapB (by omega) (by omega)
         have v0 := zdY ((Below.refl _ _).alloc (Nat.le_refl _) (.cells #[.int .i64 (at_ + 1), .int .i64 (h - rowT op - a + rowL op)] 122)) x0
         have v1 := zdY ((Below.refl _ _).alloc (Nat.le_refl _) (.cells #[.int .i64 (at_ + 1), .int .i64 (h - rowT op - a + rowL op)] 122)) x1
         have v2 := zdY ((Below.refl _ _).alloc (Nat.le_refl _) (.cells #[.int .i64 (at_ + 1), .int .i64 (h - rowT op - a + rowL op)] 122)) x2
         have v3 := zdY ((Below.refl _ _).alloc (Nat.le_refl _) (.cells #[.int .i64 (at_ + 1), .int .i64 (h - rowT op - a + rowL op)] 122)) y0
         have v4 := zdY ((Below.refl _ _).alloc (Nat.le_refl _) (.cells #[.int .i64 (at_ + 1), .int .i64 (h - rowT op - a + rowL op)] 122)) y1
         have hputs : putsOf op a b at_ h1 = [] := by rw [hh]; simp [putsOf, hc]
         rw [← hh, hputs] at hr
         have HR := amZ hr
         rw [List.append_nil] at HR
         clear hr hputs hn hc hh b0 b1 b2 b3 p2 p3 ha0 ha1 hb0 hb1 hop
         go_wp2_with (first
          | (go_at_call 65; go_loud (refine (take_calls w.heap.size _ _ v rest (by omega) ((HGd.out.alloc _).alloc _).q).mono ?_; rintro e w4 ⟨rfl, v4, hq4⟩; have HG4 := amZ (((HGd.out.alloc _).alloc _).put hq4); have hw4 := ((HGd.out.alloc _).newBlk _ _).put hq4; rw [show (wc.alloc (.cells #[.int .i64 (at_ + 1), .int .i64 (h - rowT op - a + rowL op)] 122)).heap.size = wc.heap.size + 1 by simp] at hw4; have HW4 := amZ hw4; clear hw4; have HB4 := amZ (((HBd.out.alloc HGd.out.base _).alloc (HGd.out.alloc _).base _).trans hq4.b); clear hq4; have k0 := (zaY HW4.out.blk 0).trans rfl; have k1 := (zaY HW4.out.blk 1).trans rfl; have f0 := zbY HW4.out.blk 0; have f1 := zbY HW4.out.blk 1)))
         go_roundg m
         case measure => omega
         case rel => exact ⟨rest, (at_, h) :: seen, v4, wc.heap.size + 1, rfl, by first | rfl | simp, HR, ⟨(HG4.out.store HW4.out 0 _).store (HW4.out.store 0 _) 1 _⟩, ⟨(HW4.out.store 0 _).store 1 _⟩, ⟨by omega⟩, ⟨Below.setCell (Below.setCell HB4.out (Nat.le_succ_of_le HGd.out.base) _) (Nat.le_succ_of_le HGd.out.base) _⟩⟩
       have n24 := hc
       clear hc
       by_cases hc : op = 18
       ·
        have e22 : ((op : Int) == 22) = false := by simp; omega
        have e23 : ((op : Int) == 23) = false := by simp; omega
        have e24 : ((op : Int) == 24) = false := by simp; omega
        have e18 : ((op : Int) == 18) = true := by simp; omega
        have e19 : ((op : Int) == 19) = false := by simp; omega
        have e20 : ((op : Int) == 20) = false := by simp; omega
        have e21 : ((op : Int) == 21) = false := by simp; omega
        have e26 : ((op : Int) == 26) = false := by simp; omega
        have e27 : ((op : Int) == 27) = false := by simp; omega
        have hh : h1 = h - rowT op := by rw [hh1]; simp [h1Of, hc]
        rw [hh] at hcase
        clear hh1
        rcases hcase with ⟨hn, rfl⟩ | ⟨hn, hr⟩
        ·
         have d3 : decide (h - rowT op < 0) = true := decide_eq_true hn
         clear hn hc hh b0 b1 b2 b3 p2 p3 ha0 ha1 hb0 hb1 hop
         go_wp2
         go_ret
         exact ⟨rfl, HBd.out⟩
        ·
         have d3 : decide (h - rowT op < 0) = false := decide_eq_false (by omega)
         have w5 : wrap64 (h - rowT op + rowL op) = h - rowT op + rowL op := wrapB (by omega) (by omega)
         have v0 := zdY ((Below.refl _ _).alloc (Nat.le_refl _) (.cells #[.int .i64 (at_ + 1), .int .i64 (h - rowT op + rowL op)] 122)) x0
         have v1 := zdY ((Below.refl _ _).alloc (Nat.le_refl _) (.cells #[.int .i64 (at_ + 1), .int .i64 (h - rowT op + rowL op)] 122)) x1
         have v2 := zdY ((Below.refl _ _).alloc (Nat.le_refl _) (.cells #[.int .i64 (at_ + 1), .int .i64 (h - rowT op + rowL op)] 122)) x2
         have v3 := zdY ((Below.refl _ _).alloc (Nat.le_refl _) (.cells #[.int .i64 (at_ + 1), .int .i64 (h - rowT op + rowL op)] 122)) y0
         have v4 := zdY ((Below.refl _ _).alloc (Nat.le_refl _) (.cells #[.int .i64 (at_ + 1), .int .i64 (h - rowT op + rowL op)] 122)) y1
         have hputs : putsOf op a b at_ h1 = [(a, h - rowT op)] := by rw [hh]; simp [putsOf, hc]
         rw [← hh, hputs] at hr
         have HR := amZ hr
         have HX : Aside0 (((wc.alloc (.cells #[.int .i64 (at_ + 1), .int .i64 (h - rowT op + rowL op)] 122)).alloc (.cells (wayCells [(a, h - rowT op)]).toArray 122)).heap[wc.heap.size + 1]? = some (.cells (wayCells [(a, h - rowT op)]).toArray 122 (0, 0))) := ⟨by rw [show wc.heap.size + 1 = (wc.alloc (.cells #[.int .i64 (at_ + 1), .int .i64 (h - rowT op + rowL op)] 122)).heap.size by simp, heap_alloc_new]⟩
         clear hr hputs hn hc hh b0 b1 b2 b3 p2 p3 ha0 ha1 hb0 hb1 hop
         go_wp2_with (first
          | (go_at_call 64; go_loud (refine (put_calls w.heap.size _ _ _ v rest [(a, h - rowT op)] ((HGd.out.alloc _).alloc _).q HX.out (Nat.succ_pos _) (by simp; omega)).mono ?_; rintro e w3 ⟨rfl, v3, hq3⟩; have HG3 := amZ (((HGd.out.alloc _).alloc _).put hq3); have HW3 := amZ ((HWd.out.below (below_alloc (below_alloc (Below.refl _ _) _) _)).put hq3); have HB3 := amZ (((HBd.out.alloc HGd.out.base _).alloc (HGd.out.alloc _).base _).trans hq3.b); clear hq3; have z0 := (zaY HW3.out.blk 0).trans rfl; have z1 := (zaY HW3.out.blk 1).trans rfl))
          | (go_at_call 65; go_loud (refine (take_calls w.heap.size _ _ v3 _ (by simp; omega) (HG3.out.alloc _).q).mono ?_; rintro e w4 ⟨rfl, v4, hq4⟩; have HG4 := amZ ((HG3.out.alloc _).put hq4); have HW4 := amZ ((HG3.out.newBlk _ _).put hq4); have HB4 := amZ ((HB3.out.alloc HG3.out.base _).trans hq4.b); clear hq4; have k0 := (zaY HW4.out.blk 0).trans rfl; have k1 := (zaY HW4.out.blk 1).trans rfl; have f0 := zbY HW4.out.blk 0; have f1 := zbY HW4.out.blk 1)))
         go_roundg m
         case measure => omega
         case rel => exact ⟨rest ++ [(a, h - rowT op)], (at_, h) :: seen, v4, w3.heap.size, rfl, by first | rfl | simp, HR, ⟨(HG4.out.store HW4.out 0 _).store (HW4.out.store 0 _) 1 _⟩, ⟨(HW4.out.store 0 _).store 1 _⟩, ⟨by simp; omega⟩, ⟨Below.setCell (Below.setCell HB4.out HG3.out.base _) HG3.out.base _⟩⟩
       have n18 := hc
       clear hc
       by_cases hc : op = 19
       ·
        have e22 : ((op : Int) == 22) = false := by simp; omega
        have e23 : ((op : Int) == 23) = false := by simp; omega
        have e24 : ((op : Int) == 24) = false := by simp; omega
        have e18 : ((op : Int) == 18) = false := by simp; omega
        have e19 : ((op : Int) == 19) = true := by simp; omega
        have e20 : ((op : Int) == 20) = false := by simp; omega
        have e21 : ((op : Int) == 21) = false := by simp; omega
        have e26 : ((op : Int) == 26) = false := by simp; omega
        have e27 : ((op : Int) == 27) = false := by simp; omega
        have hh : h1 = h - rowT op := by rw [hh1]; simp [h1Of, hc]
        rw [hh] at hcase
        clear hh1
        rcases hcase with ⟨hn, rfl⟩ | ⟨hn, hr⟩
        ·
         have d3 : decide (h - rowT op < 0) = true := decide_eq_true hn
         clear hn hc hh b0 b1 b2 b3 p2 p3 ha0 ha1 hb0 hb1 hop
         go_wp2
         go_ret
         exact ⟨rfl, HBd.out⟩
        ·
         have d3 : decide (h - rowT op < 0) = false := decide_eq_false (by omega)
         have w5 : wrap64 (h - rowT op + rowL op) = h - rowT op + rowL op := wrapB (by omega) (by omega)
         have v0 := zdY ((Below.refl _ _).alloc (Nat.le_refl _) (.cells #[.int .i64 (at_ + 1), .int .i64 (h - rowT op + rowL op)] 122)) x0
         have v1 := zdY ((Below.refl _ _).alloc (Nat.le_refl _) (.cells #[.int .i64 (at_ + 1), .int .i64 (h - rowT op + rowL op)] 122)) x1
         have v2 := zdY ((Below.refl _ _).alloc (Nat.le_refl _) (.cells #[.int .i64 (at_ + 1), .int .i64 (h - rowT op + rowL op)] 122)) x2
         have v3 := zdY ((Below.refl _ _).alloc (Nat.le_refl _) (.cells #[.int .i64 (at_ + 1), .int .i64 (h - rowT op + rowL op)] 122)) y0
         have v4 := zdY ((Below.refl _ _).alloc (Nat.le_refl _) (.cells #[.int .i64 (at_ + 1), .int .i64 (h - rowT op + rowL op)] 122)) y1
         have hputs : putsOf op a b at_ h1 = [(at_ + 1, h - rowT op + rowL op), (a, h - rowT op)] := by rw [hh]; simp [putsOf, hc]
         rw [← hh, hputs] at hr
         have HR := amZ hr
         have HX : Aside0 (((wc.alloc (.cells #[.int .i64 (at_ + 1), .int .i64 (h - rowT op + rowL op)] 122)).alloc (.cells (wayCells [(at_ + 1, h - rowT op + rowL op), (a, h - rowT op)]).toArray 122)).heap[wc.heap.size + 1]? = some (.cells (wayCells [(at_ + 1, h - rowT op + rowL op), (a, h - rowT op)]).toArray 122 (0, 0))) := ⟨by rw [show wc.heap.size + 1 = (wc.alloc (.cells #[.int .i64 (at_ + 1), .int .i64 (h - rowT op + rowL op)] 122)).heap.size by simp, heap_alloc_new]⟩
         clear hr hputs hn hc hh b0 b1 b2 b3 p2 p3 ha0 ha1 hb0 hb1 hop
         go_wp2_with (first
          | (go_at_call 64; go_loud (refine (put_calls w.heap.size _ _ _ v rest [(at_ + 1, h - rowT op + rowL op), (a, h - rowT op)] ((HGd.out.alloc _).alloc _).q HX.out (Nat.succ_pos _) (by simp; omega)).mono ?_; rintro e w3 ⟨rfl, v3, hq3⟩; have HG3 := amZ (((HGd.out.alloc _).alloc _).put hq3); have HW3 := amZ ((HWd.out.below (below_alloc (below_alloc (Below.refl _ _) _) _)).put hq3); have HB3 := amZ (((HBd.out.alloc HGd.out.base _).alloc (HGd.out.alloc _).base _).trans hq3.b); clear hq3; have z0 := (zaY HW3.out.blk 0).trans rfl; have z1 := (zaY HW3.out.blk 1).trans rfl))
          | (go_at_call 65; go_loud (refine (take_calls w.heap.size _ _ v3 _ (by simp; omega) (HG3.out.alloc _).q).mono ?_; rintro e w4 ⟨rfl, v4, hq4⟩; have HG4 := amZ ((HG3.out.alloc _).put hq4); have HW4 := amZ ((HG3.out.newBlk _ _).put hq4); have HB4 := amZ ((HB3.out.alloc HG3.out.base _).trans hq4.b); clear hq4; have k0 := (zaY HW4.out.blk 0).trans rfl; have k1 := (zaY HW4.out.blk 1).trans rfl; have f0 := zbY HW4.out.blk 0; have f1 := zbY HW4.out.blk 1)))
         go_roundg m
         case measure => omega
         case rel => exact ⟨rest ++ [(at_ + 1, h - rowT op + rowL op), (a, h - rowT op)], (at_, h) :: seen, v4, w3.heap.size, rfl, by first | rfl | simp, HR, ⟨(HG4.out.store HW4.out 0 _).store (HW4.out.store 0 _) 1 _⟩, ⟨(HW4.out.store 0 _).store 1 _⟩, ⟨by simp; omega⟩, ⟨Below.setCell (Below.setCell HB4.out HG3.out.base _) HG3.out.base _⟩⟩
       have n19 := hc
       clear hc
       by_cases hc : op = 20
       ·
        have e22 : ((op : Int) == 22) = false := by simp; omega
        have e23 : ((op : Int) == 23) = false := by simp; omega
        have e24 : ((op : Int) == 24) = false := by simp; omega
        have e18 : ((op : Int) == 18) = false := by simp; omega
        have e19 : ((op : Int) == 19) = false := by simp; omega
        have e20 : ((op : Int) == 20) = true := by simp; omega
        have e21 : ((op : Int) == 21) = false := by simp; omega
        have e26 : ((op : Int) == 26) = false := by simp; omega
        have e27 : ((op : Int) == 27) = false := by simp; omega
        have hh : h1 = h - rowT op := by rw [hh1]; simp [h1Of, hc]
        rw [hh] at hcase
        clear hh1
        rcases hcase with ⟨hn, rfl⟩ | ⟨hn, hr⟩
        ·
         have d3 : decide (h - rowT op < 0) = true := decide_eq_true hn
         clear hn hc hh b0 b1 b2 b3 p2 p3 ha0 ha1 hb0 hb1 hop
         go_wp2
         go_ret
         exact ⟨rfl, HBd.out⟩
        ·
         have d3 : decide (h - rowT op < 0) = false := decide_eq_false (by omega)
         have w5 : wrap64 (h - rowT op + rowL op) = h - rowT op + rowL op := wrapB (by omega) (by omega)
         have v0 := zdY ((Below.refl _ _).alloc (Nat.le_refl _) (.cells #[.int .i64 (at_ + 1), .int .i64 (h - rowT op + rowL op)] 122)) x0
         have v1 := zdY ((Below.refl _ _).alloc (Nat.le_refl _) (.cells #[.int .i64 (at_ + 1), .int .i64 (h - rowT op + rowL op)] 122)) x1
         have v2 := zdY ((Below.refl _ _).alloc (Nat.le_refl _) (.cells #[.int .i64 (at_ + 1), .int .i64 (h - rowT op + rowL op)] 122)) x2
         have v3 := zdY ((Below.refl _ _).alloc (Nat.le_refl _) (.cells #[.int .i64 (at_ + 1), .int .i64 (h - rowT op + rowL op)] 122)) y0
         have v4 := zdY ((Below.refl _ _).alloc (Nat.le_refl _) (.cells #[.int .i64 (at_ + 1), .int .i64 (h - rowT op + rowL op)] 122)) y1
         have w7 : wrap64 (h - rowT op + 1) = h - rowT op + 1 := wrapB (by omega) (by omega)
         have hputs : putsOf op a b at_ h1 = [(at_ + 1, h - rowT op + rowL op), (a, h - rowT op + 1)] := by rw [hh]; simp [putsOf, hc]
         rw [← hh, hputs] at hr
         have HR := amZ hr
         have HX : Aside0 (((wc.alloc (.cells #[.int .i64 (at_ + 1), .int .i64 (h - rowT op + rowL op)] 122)).alloc (.cells (wayCells [(at_ + 1, h - rowT op + rowL op), (a, h - rowT op + 1)]).toArray 122)).heap[wc.heap.size + 1]? = some (.cells (wayCells [(at_ + 1, h - rowT op + rowL op), (a, h - rowT op + 1)]).toArray 122 (0, 0))) := ⟨by rw [show wc.heap.size + 1 = (wc.alloc (.cells #[.int .i64 (at_ + 1), .int .i64 (h - rowT op + rowL op)] 122)).heap.size by simp, heap_alloc_new]⟩
         clear hr hputs hn hc hh b0 b1 b2 b3 p2 p3 ha0 ha1 hb0 hb1 hop
         go_wp2_with (first
          | (go_at_call 64; go_loud (refine (put_calls w.heap.size _ _ _ v rest [(at_ + 1, h - rowT op + rowL op), (a, h - rowT op + 1)] ((HGd.out.alloc _).alloc _).q HX.out (Nat.succ_pos _) (by simp; omega)).mono ?_; rintro e w3 ⟨rfl, v3, hq3⟩; have HG3 := amZ (((HGd.out.alloc _).alloc _).put hq3); have HW3 := amZ ((HWd.out.below (below_alloc (below_alloc (Below.refl _ _) _) _)).put hq3); have HB3 := amZ (((HBd.out.alloc HGd.out.base _).alloc (HGd.out.alloc _).base _).trans hq3.b); clear hq3; have z0 := (zaY HW3.out.blk 0).trans rfl; have z1 := (zaY HW3.out.blk 1).trans rfl))
          | (go_at_call 65; go_loud (refine (take_calls w.heap.size _ _ v3 _ (by simp; omega) (HG3.out.alloc _).q).mono ?_; rintro e w4 ⟨rfl, v4, hq4⟩; have HG4 := amZ ((HG3.out.alloc _).put hq4); have HW4 := amZ ((HG3.out.newBlk _ _).put hq4); have HB4 := amZ ((HB3.out.alloc HG3.out.base _).trans hq4.b); clear hq4; have k0 := (zaY HW4.out.blk 0).trans rfl; have k1 := (zaY HW4.out.blk 1).trans rfl; have f0 := zbY HW4.out.blk 0; have f1 := zbY HW4.out.blk 1)))
         go_roundg m
         case measure => omega
         case rel => exact ⟨rest ++ [(at_ + 1, h - rowT op + rowL op), (a, h - rowT op + 1)], (at_, h) :: seen, v4, w3.heap.size, rfl, by first | rfl | simp, HR, ⟨(HG4.out.store HW4.out 0 _).store (HW4.out.store 0 _) 1 _⟩, ⟨(HW4.out.store 0 _).store 1 _⟩, ⟨by simp; omega⟩, ⟨Below.setCell (Below.setCell HB4.out HG3.out.base _) HG3.out.base _⟩⟩
       have n20 := hc
       clear hc
       by_cases hc : op = 21
       ·
        have e22 : ((op : Int) == 22) = false := by simp; omega
        have e23 : ((op : Int) == 23) = false := by simp; omega
        have e24 : ((op : Int) == 24) = false := by simp; omega
        have e18 : ((op : Int) == 18) = false := by simp; omega
        have e19 : ((op : Int) == 19) = false := by simp; omega
        have e20 : ((op : Int) == 20) = false := by simp; omega
        have e21 : ((op : Int) == 21) = true := by simp; omega
        have e26 : ((op : Int) == 26) = false := by simp; omega
        have e27 : ((op : Int) == 27) = false := by simp; omega
        have hh : h1 = h - rowT op := by rw [hh1]; simp [h1Of, hc]
        rw [hh] at hcase
        clear hh1
        rcases hcase with ⟨hn, rfl⟩ | ⟨hn, hr⟩
        ·
         have d3 : decide (h - rowT op < 0) = true := decide_eq_true hn
         clear hn hc hh b0 b1 b2 b3 p2 p3 ha0 ha1 hb0 hb1 hop
         go_wp2
         go_ret
         exact ⟨rfl, HBd.out⟩
        ·
         have d3 : decide (h - rowT op < 0) = false := decide_eq_false (by omega)
         have w5 : wrap64 (h - rowT op + rowL op) = h - rowT op + rowL op := wrapB (by omega) (by omega)
         have v0 := zdY ((Below.refl _ _).alloc (Nat.le_refl _) (.cells #[.int .i64 (at_ + 1), .int .i64 (h - rowT op + rowL op)] 122)) x0
         have v1 := zdY ((Below.refl _ _).alloc (Nat.le_refl _) (.cells #[.int .i64 (at_ + 1), .int .i64 (h - rowT op + rowL op)] 122)) x1
         have v2 := zdY ((Below.refl _ _).alloc (Nat.le_refl _) (.cells #[.int .i64 (at_ + 1), .int .i64 (h - rowT op + rowL op)] 122)) x2
         have v3 := zdY ((Below.refl _ _).alloc (Nat.le_refl _) (.cells #[.int .i64 (at_ + 1), .int .i64 (h - rowT op + rowL op)] 122)) y0
         have v4 := zdY ((Below.refl _ _).alloc (Nat.le_refl _) (.cells #[.int .i64 (at_ + 1), .int .i64 (h - rowT op + rowL op)] 122)) y1
         have w7 : wrap64 (h - rowT op + 1) = h - rowT op + 1 := wrapB (by omega) (by omega)
         have hputs : putsOf op a b at_ h1 = [(at_ + 1, h - rowT op + rowL op), (a, h - rowT op + 1)] := by rw [hh]; simp [putsOf, hc]
         rw [← hh, hputs] at hr
         have HR := amZ hr
         have HX : Aside0 (((wc.alloc (.cells #[.int .i64 (at_ + 1), .int .i64 (h - rowT op + rowL op)] 122)).alloc (.cells (wayCells [(at_ + 1, h - rowT op + rowL op), (a, h - rowT op + 1)]).toArray 122)).heap[wc.heap.size + 1]? = some (.cells (wayCells [(at_ + 1, h - rowT op + rowL op), (a, h - rowT op + 1)]).toArray 122 (0, 0))) := ⟨by rw [show wc.heap.size + 1 = (wc.alloc (.cells #[.int .i64 (at_ + 1), .int .i64 (h - rowT op + rowL op)] 122)).heap.size by simp, heap_alloc_new]⟩
         clear hr hputs hn hc hh b0 b1 b2 b3 p2 p3 ha0 ha1 hb0 hb1 hop
         go_wp2_with (first
          | (go_at_call 64; go_loud (refine (put_calls w.heap.size _ _ _ v rest [(at_ + 1, h - rowT op + rowL op), (a, h - rowT op + 1)] ((HGd.out.alloc _).alloc _).q HX.out (Nat.succ_pos _) (by simp; omega)).mono ?_; rintro e w3 ⟨rfl, v3, hq3⟩; have HG3 := amZ (((HGd.out.alloc _).alloc _).put hq3); have HW3 := amZ ((HWd.out.below (below_alloc (below_alloc (Below.refl _ _) _) _)).put hq3); have HB3 := amZ (((HBd.out.alloc HGd.out.base _).alloc (HGd.out.alloc _).base _).trans hq3.b); clear hq3; have z0 := (zaY HW3.out.blk 0).trans rfl; have z1 := (zaY HW3.out.blk 1).trans rfl))
          | (go_at_call 65; go_loud (refine (take_calls w.heap.size _ _ v3 _ (by simp; omega) (HG3.out.alloc _).q).mono ?_; rintro e w4 ⟨rfl, v4, hq4⟩; have HG4 := amZ ((HG3.out.alloc _).put hq4); have HW4 := amZ ((HG3.out.newBlk _ _).put hq4); have HB4 := amZ ((HB3.out.alloc HG3.out.base _).trans hq4.b); clear hq4; have k0 := (zaY HW4.out.blk 0).trans rfl; have k1 := (zaY HW4.out.blk 1).trans rfl; have f0 := zbY HW4.out.blk 0; have f1 := zbY HW4.out.blk 1)))
         go_roundg m
         case measure => omega
         case rel => exact ⟨rest ++ [(at_ + 1, h - rowT op + rowL op), (a, h - rowT op + 1)], (at_, h) :: seen, v4, w3.heap.size, rfl, by first | rfl | simp, HR, ⟨(HG4.out.store HW4.out 0 _).store (HW4.out.store 0 _) 1 _⟩, ⟨(HW4.out.store 0 _).store 1 _⟩, ⟨by simp; omega⟩, ⟨Below.setCell (Below.setCell HB4.out HG3.out.base _) HG3.out.base _⟩⟩
       have n21 := hc
       clear hc
       by_cases hc : op = 26
       ·
        have e22 : ((op : Int) == 22) = false := by simp; omega
        have e23 : ((op : Int) == 23) = false := by simp; omega
        have e24 : ((op : Int) == 24) = false := by simp; omega
        have e18 : ((op : Int) == 18) = false := by simp; omega
        have e19 : ((op : Int) == 19) = false := by simp; omega
        have e20 : ((op : Int) == 20) = false := by simp; omega
        have e21 : ((op : Int) == 21) = false := by simp; omega
        have e26 : ((op : Int) == 26) = true := by simp; omega
        have e27 : ((op : Int) == 27) = false := by simp; omega
        have hh : h1 = h - rowT op := by rw [hh1]; simp [h1Of, hc]
        rw [hh] at hcase
        clear hh1
        rcases hcase with ⟨hn, rfl⟩ | ⟨hn, hr⟩
        ·
         have d3 : decide (h - rowT op < 0) = true := decide_eq_true hn
         clear hn hc hh b0 b1 b2 b3 p2 p3 ha0 ha1 hb0 hb1 hop
         go_wp2
         go_ret
         exact ⟨rfl, HBd.out⟩
        ·
         have d3 : decide (h - rowT op < 0) = false := decide_eq_false (by omega)
         have w5 : wrap64 (h - rowT op + rowL op) = h - rowT op + rowL op := wrapB (by omega) (by omega)
         have v0 := zdY ((Below.refl _ _).alloc (Nat.le_refl _) (.cells #[.int .i64 (at_ + 1), .int .i64 (h - rowT op + rowL op)] 122)) x0
         have v1 := zdY ((Below.refl _ _).alloc (Nat.le_refl _) (.cells #[.int .i64 (at_ + 1), .int .i64 (h - rowT op + rowL op)] 122)) x1
         have v2 := zdY ((Below.refl _ _).alloc (Nat.le_refl _) (.cells #[.int .i64 (at_ + 1), .int .i64 (h - rowT op + rowL op)] 122)) x2
         have v3 := zdY ((Below.refl _ _).alloc (Nat.le_refl _) (.cells #[.int .i64 (at_ + 1), .int .i64 (h - rowT op + rowL op)] 122)) y0
         have v4 := zdY ((Below.refl _ _).alloc (Nat.le_refl _) (.cells #[.int .i64 (at_ + 1), .int .i64 (h - rowT op + rowL op)] 122)) y1
         have hputs : putsOf op a b at_ h1 = [(at_ + 1, h - rowT op + rowL op), (b, h - rowT op)] := by rw [hh]; simp [putsOf, hc]
         rw [← hh, hputs] at hr
         have HR := amZ hr
         have HX : Aside0 (((wc.alloc (.cells #[.int .i64 (at_ + 1), .int .i64 (h - rowT op + rowL op)] 122)).alloc (.cells (wayCells [(at_ + 1, h - rowT op + rowL op), (b, h - rowT op)]).toArray 122)).heap[wc.heap.size + 1]? = some (.cells (wayCells [(at_ + 1, h - rowT op + rowL op), (b, h - rowT op)]).toArray 122 (0, 0))) := ⟨by rw [show wc.heap.size + 1 = (wc.alloc (.cells #[.int .i64 (at_ + 1), .int .i64 (h - rowT op + rowL op)] 122)).heap.size by simp, heap_alloc_new]⟩
         clear hr hputs hn hc hh b0 b1 b2 b3 p2 p3 ha0 ha1 hb0 hb1 hop
         go_wp2_with (first
          | (go_at_call 64; go_loud (refine (put_calls w.heap.size _ _ _ v rest [(at_ + 1, h - rowT op + rowL op), (b, h - rowT op)] ((HGd.out.alloc _).alloc _).q HX.out (Nat.succ_pos _) (by simp; omega)).mono ?_; rintro e w3 ⟨rfl, v3, hq3⟩; have HG3 := amZ (((HGd.out.alloc _).alloc _).put hq3); have HW3 := amZ ((HWd.out.below (below_alloc (below_alloc (Below.refl _ _) _) _)).put hq3); have HB3 := amZ (((HBd.out.alloc HGd.out.base _).alloc (HGd.out.alloc _).base _).trans hq3.b); clear hq3; have z0 := (zaY HW3.out.blk 0).trans rfl; have z1 := (zaY HW3.out.blk 1).trans rfl))
          | (go_at_call 65; go_loud (refine (take_calls w.heap.size _ _ v3 _ (by simp; omega) (HG3.out.alloc _).q).mono ?_; rintro e w4 ⟨rfl, v4, hq4⟩; have HG4 := amZ ((HG3.out.alloc _).put hq4); have HW4 := amZ ((HG3.out.newBlk _ _).put hq4); have HB4 := amZ ((HB3.out.alloc HG3.out.base _).trans hq4.b); clear hq4; have k0 := (zaY HW4.out.blk 0).trans rfl; have k1 := (zaY HW4.out.blk 1).trans rfl; have f0 := zbY HW4.out.blk 0; have f1 := zbY HW4.out.blk 1)))
         go_roundg m
         case measure => omega
         case rel => exact ⟨rest ++ [(at_ + 1, h - rowT op + rowL op), (b, h - rowT op)], (at_, h) :: seen, v4, w3.heap.size, rfl, by first | rfl | simp, HR, ⟨(HG4.out.store HW4.out 0 _).store (HW4.out.store 0 _) 1 _⟩, ⟨(HW4.out.store 0 _).store 1 _⟩, ⟨by simp; omega⟩, ⟨Below.setCell (Below.setCell HB4.out HG3.out.base _) HG3.out.base _⟩⟩
       have n26 := hc
       clear hc
       by_cases hc : op = 27
       ·
        have e22 : ((op : Int) == 22) = false := by simp; omega
        have e23 : ((op : Int) == 23) = false := by simp; omega
        have e24 : ((op : Int) == 24) = false := by simp; omega
        have e18 : ((op : Int) == 18) = false := by simp; omega
        have e19 : ((op : Int) == 19) = false := by simp; omega
        have e20 : ((op : Int) == 20) = false := by simp; omega
        have e21 : ((op : Int) == 21) = false := by simp; omega
        have e26 : ((op : Int) == 26) = false := by simp; omega
        have e27 : ((op : Int) == 27) = true := by simp; omega
        have hh : h1 = h - rowT op := by rw [hh1]; simp [h1Of, hc]
        rw [hh] at hcase
        clear hh1
        rcases hcase with ⟨hn, rfl⟩ | ⟨hn, hr⟩
        ·
         have d3 : decide (h - rowT op < 0) = true := decide_eq_true hn
         clear hn hc hh b0 b1 b2 b3 p2 p3 ha0 ha1 hb0 hb1 hop
         go_wp2
         go_ret
         exact ⟨rfl, HBd.out⟩
        ·
         have d3 : decide (h - rowT op < 0) = false := decide_eq_false (by omega)
         have w5 : wrap64 (h - rowT op + rowL op) = h - rowT op + rowL op := wrapB (by omega) (by omega)
         have v0 := zdY ((Below.refl _ _).alloc (Nat.le_refl _) (.cells #[.int .i64 (at_ + 1), .int .i64 (h - rowT op + rowL op)] 122)) x0
         have v1 := zdY ((Below.refl _ _).alloc (Nat.le_refl _) (.cells #[.int .i64 (at_ + 1), .int .i64 (h - rowT op + rowL op)] 122)) x1
         have v2 := zdY ((Below.refl _ _).alloc (Nat.le_refl _) (.cells #[.int .i64 (at_ + 1), .int .i64 (h - rowT op + rowL op)] 122)) x2
         have v3 := zdY ((Below.refl _ _).alloc (Nat.le_refl _) (.cells #[.int .i64 (at_ + 1), .int .i64 (h - rowT op + rowL op)] 122)) y0
         have v4 := zdY ((Below.refl _ _).alloc (Nat.le_refl _) (.cells #[.int .i64 (at_ + 1), .int .i64 (h - rowT op + rowL op)] 122)) y1
         have hputs : putsOf op a b at_ h1 = [(at_ + 1, h - rowT op + rowL op), (b, h - rowT op)] := by rw [hh]; simp [putsOf, hc]
         rw [← hh, hputs] at hr
         have HR := amZ hr
         have HX : Aside0 (((wc.alloc (.cells #[.int .i64 (at_ + 1), .int .i64 (h - rowT op + rowL op)] 122)).alloc (.cells (wayCells [(at_ + 1, h - rowT op + rowL op), (b, h - rowT op)]).toArray 122)).heap[wc.heap.size + 1]? = some (.cells (wayCells [(at_ + 1, h - rowT op + rowL op), (b, h - rowT op)]).toArray 122 (0, 0))) := ⟨by rw [show wc.heap.size + 1 = (wc.alloc (.cells #[.int .i64 (at_ + 1), .int .i64 (h - rowT op + rowL op)] 122)).heap.size by simp, heap_alloc_new]⟩
         clear hr hputs hn hc hh b0 b1 b2 b3 p2 p3 ha0 ha1 hb0 hb1 hop
         go_wp2_with (first
          | (go_at_call 64; go_loud (refine (put_calls w.heap.size _ _ _ v rest [(at_ + 1, h - rowT op + rowL op), (b, h - rowT op)] ((HGd.out.alloc _).alloc _).q HX.out (Nat.succ_pos _) (by simp; omega)).mono ?_; rintro e w3 ⟨rfl, v3, hq3⟩; have HG3 := amZ (((HGd.out.alloc _).alloc _).put hq3); have HW3 := amZ ((HWd.out.below (below_alloc (below_alloc (Below.refl _ _) _) _)).put hq3); have HB3 := amZ (((HBd.out.alloc HGd.out.base _).alloc (HGd.out.alloc _).base _).trans hq3.b); clear hq3; have z0 := (zaY HW3.out.blk 0).trans rfl; have z1 := (zaY HW3.out.blk 1).trans rfl))
          | (go_at_call 65; go_loud (refine (take_calls w.heap.size _ _ v3 _ (by simp; omega) (HG3.out.alloc _).q).mono ?_; rintro e w4 ⟨rfl, v4, hq4⟩; have HG4 := amZ ((HG3.out.alloc _).put hq4); have HW4 := amZ ((HG3.out.newBlk _ _).put hq4); have HB4 := amZ ((HB3.out.alloc HG3.out.base _).trans hq4.b); clear hq4; have k0 := (zaY HW4.out.blk 0).trans rfl; have k1 := (zaY HW4.out.blk 1).trans rfl; have f0 := zbY HW4.out.blk 0; have f1 := zbY HW4.out.blk 1)))
         go_roundg m
         case measure => omega
         case rel => exact ⟨rest ++ [(at_ + 1, h - rowT op + rowL op), (b, h - rowT op)], (at_, h) :: seen, v4, w3.heap.size, rfl, by first | rfl | simp, HR, ⟨(HG4.out.store HW4.out 0 _).store (HW4.out.store 0 _) 1 _⟩, ⟨(HW4.out.store 0 _).store 1 _⟩, ⟨by simp; omega⟩, ⟨Below.setCell (Below.setCell HB4.out HG3.out.base _) HG3.out.base _⟩⟩
       have n27 := hc
       clear hc
       have hc := hop
       have e22 : ((op : Int) == 22) = false := by simp; omega
       have e23 : ((op : Int) == 23) = false := by simp; omega
       have e24 : ((op : Int) == 24) = false := by simp; omega
       have e18 : ((op : Int) == 18) = false := by simp; omega
       have e19 : ((op : Int) == 19) = false := by simp; omega
       have e20 : ((op : Int) == 20) = false := by simp; omega
       have e21 : ((op : Int) == 21) = false := by simp; omega
       have e26 : ((op : Int) == 26) = false := by simp; omega
       have e27 : ((op : Int) == 27) = false := by simp; omega
       have hh : h1 = h - rowT op := by rw [hh1]; unfold h1Of; rw [if_neg (by omega)]
       rw [hh] at hcase
       clear hh1
       rcases hcase with ⟨hn, rfl⟩ | ⟨hn, hr⟩
       ·
        have d3 : decide (h - rowT op < 0) = true := decide_eq_true hn
        clear hn hc hh b0 b1 b2 b3 p2 p3 ha0 ha1 hb0 hb1 hop
        go_wp2
        go_ret
        exact ⟨rfl, HBd.out⟩
       ·
        have d3 : decide (h - rowT op < 0) = false := decide_eq_false (by omega)
        have w5 : wrap64 (h - rowT op + rowL op) = h - rowT op + rowL op := wrapB (by omega) (by omega)
        have v0 := zdY ((Below.refl _ _).alloc (Nat.le_refl _) (.cells #[.int .i64 (at_ + 1), .int .i64 (h - rowT op + rowL op)] 122)) x0
        have v1 := zdY ((Below.refl _ _).alloc (Nat.le_refl _) (.cells #[.int .i64 (at_ + 1), .int .i64 (h - rowT op + rowL op)] 122)) x1
        have v2 := zdY ((Below.refl _ _).alloc (Nat.le_refl _) (.cells #[.int .i64 (at_ + 1), .int .i64 (h - rowT op + rowL op)] 122)) x2
        have v3 := zdY ((Below.refl _ _).alloc (Nat.le_refl _) (.cells #[.int .i64 (at_ + 1), .int .i64 (h - rowT op + rowL op)] 122)) y0
        have v4 := zdY ((Below.refl _ _).alloc (Nat.le_refl _) (.cells #[.int .i64 (at_ + 1), .int .i64 (h - rowT op + rowL op)] 122)) y1
        have hputs : putsOf op a b at_ h1 = [(at_ + 1, h - rowT op + rowL op)] := by rw [hh]; unfold putsOf; rw [if_neg (by omega), if_neg (by omega), if_neg (by omega), if_neg (by omega), if_neg (by omega), if_neg (by omega)]
        rw [← hh, hputs] at hr
        have HR := amZ hr
        have HX : Aside0 (((wc.alloc (.cells #[.int .i64 (at_ + 1), .int .i64 (h - rowT op + rowL op)] 122)).alloc (.cells (wayCells [(at_ + 1, h - rowT op + rowL op)]).toArray 122)).heap[wc.heap.size + 1]? = some (.cells (wayCells [(at_ + 1, h - rowT op + rowL op)]).toArray 122 (0, 0))) := ⟨by rw [show wc.heap.size + 1 = (wc.alloc (.cells #[.int .i64 (at_ + 1), .int .i64 (h - rowT op + rowL op)] 122)).heap.size by simp, heap_alloc_new]⟩
        clear hr hputs hn hc hh b0 b1 b2 b3 p2 p3 ha0 ha1 hb0 hb1 hop
        go_wp2_with (first
         | (go_at_call 64; go_loud (refine (put_calls w.heap.size _ _ _ v rest [(at_ + 1, h - rowT op + rowL op)] ((HGd.out.alloc _).alloc _).q HX.out (Nat.succ_pos _) (by simp; omega)).mono ?_; rintro e w3 ⟨rfl, v3, hq3⟩; have HG3 := amZ (((HGd.out.alloc _).alloc _).put hq3); have HW3 := amZ ((HWd.out.below (below_alloc (below_alloc (Below.refl _ _) _) _)).put hq3); have HB3 := amZ (((HBd.out.alloc HGd.out.base _).alloc (HGd.out.alloc _).base _).trans hq3.b); clear hq3; have z0 := (zaY HW3.out.blk 0).trans rfl; have z1 := (zaY HW3.out.blk 1).trans rfl))
         | (go_at_call 65; go_loud (refine (take_calls w.heap.size _ _ v3 _ (by simp; omega) (HG3.out.alloc _).q).mono ?_; rintro e w4 ⟨rfl, v4, hq4⟩; have HG4 := amZ ((HG3.out.alloc _).put hq4); have HW4 := amZ ((HG3.out.newBlk _ _).put hq4); have HB4 := amZ ((HB3.out.alloc HG3.out.base _).trans hq4.b); clear hq4; have k0 := (zaY HW4.out.blk 0).trans rfl; have k1 := (zaY HW4.out.blk 1).trans rfl; have f0 := zbY HW4.out.blk 0; have f1 := zbY HW4.out.blk 1)))
        go_roundg m
        case measure => omega
        case rel => exact ⟨rest ++ [(at_ + 1, h - rowT op + rowL op)], (at_, h) :: seen, v4, w3.heap.size, rfl, by first | rfl | simp, HR, ⟨(HG4.out.store HW4.out 0 _).store (HW4.out.store 0 _) 1 _⟩, ⟨(HW4.out.store 0 _).store 1 _⟩, ⟨by simp; omega⟩, ⟨Below.setCell (Below.setCell HB4.out HG3.out.base _) HG3.out.base _⟩⟩
end Go.Proofs.YtmmpiojekgfdjaaDoor.C
