/- The answer marked. -/
import Derived.Test.YtmmpiojekgfdjaaDoorZpB6
import Derived.Test.YtmmpiojekgfdjaaDoorZpV1
import Derived.Test.YtmmpiojekgfdjaaDoorZpK
namespace Go.Proofs.YtmmpiojekgfdjaaDoor.C
open Go.RowKit YtmmpiojekgfdjaaDoorW.PrintWords YtmmpiojekgfdjaaDoorW.PrintLast
set_option linter.unusedVariables false
set_option linter.unusedSimpArgs false
theorem Bw.C {W : World} {base : Nat} {A : Option Addr} {c : Nat} {xs : List Int} (h : Bw W base A c xs) : Kd.C (Kd.int .u8) W A xs.length xs := by
 refine ⟨rfl, h.mx, fun hp => ?_⟩
 obtain ⟨g, cells, e, _, hb, _, hc⟩ := h.at_ hp
 refine ⟨_, e, fun j p hj => ?_⟩
 obtain ⟨hj, hp⟩ := List.getElem?_eq_some_iff.1 hj
 refine ⟨[.int .u8 p], rfl, rfl, fun i u hi => ?_⟩
 obtain ⟨hi, hu⟩ := List.getElem?_eq_some_iff.1 hi
 have hi0 : i = 0 := by simp at hi; exact hi
 subst hi0
 have hu : Value.int .u8 p = u := hu
 subst hu
 rw [show (Kd.int .u8).sz = 1 from rfl, Nat.mul_one, Nat.add_zero, add_plain]
 exact (cell_of_row W g j cells 5 _ hb).trans (by rw [hc j hj, hp])
theorem Bw.keep {W W1 : World} {base : Nat} {A : Option Addr} {c : Nat} {xs : List Int} (h : Bw W base A c xs) (hk : ∀ g, base ≤ g → g < W.heap.size → W1.heap[g]? = W.heap[g]?) : Bw W1 base A c xs :=
 ⟨h.le, h.mx, fun hp => by
  obtain ⟨g, cells, e, hb, h1, h2, h3⟩ := h.at_ hp
  exact ⟨g, cells, e, hb, (hk g hb (by have := Array.getElem?_eq_some_iff.1 h1; exact this.1)).trans h1, h2, h3⟩⟩
theorem Bw.below {W W1 : World} {base : Nat} {A : Option Addr} {c : Nat} {xs : List Int} (h : Bw W base A c xs) (hb : Below W.heap.size W W1) : Bw W1 base A c xs := h.keep fun g _ hg => hb.block g hg
structure Bk (W : World) (g : Nat) (xs : List Int) : Prop where
 ex : ∃ cells, W.heap[g]? = some (.cells cells 5 (cells.size, cells.size + 1)) ∧ xs.length ≤ cells.size ∧ ∀ j (hj : j < xs.length), cells[j]? = some (.int .u8 xs[j])
theorem Bk.cell {W : World} {g : Nat} {xs : List Int} (h : Bk W g xs) (j : Nat) (hj : j < xs.length) : W.cell? ⟨g, j, none⟩ = some (.int .u8 xs[j]) ∧ W.frozen? ⟨g, j, none⟩ = false := by
 obtain ⟨cells, h1, h2, h3⟩ := h.ex
 refine ⟨(cell_of_row W g j cells 5 _ h1).trans (h3 j hj), ?_⟩
 simp only [World.frozen?, h1]
 simp
 omega
theorem Bk.put {W : World} {g : Nat} {xs : List Int} (h : Bk W g xs) (j : Nat) (hj : j < xs.length) (y : Int) : Bk (W.setCell ⟨g, j, none⟩ (.int .u8 y)) g (xs.set j y) := by
 obtain ⟨cells, h1, h2, h3⟩ := h.ex
 have h4 := Lib.heap_setCell_same (i := j) h1 (.int .u8 y)
 refine ⟨⟨cells.setIfInBounds j (.int .u8 y), by rw [h4, Array.size_setIfInBounds], by simpa using h2, fun i hi => ?_⟩⟩
 rw [List.length_set] at hi
 by_cases e : j = i
 ·
  subst e
  rw [List.getElem_set_self, Array.getElem?_setIfInBounds_self_of_lt (by omega)]
 ·
  rw [List.getElem_set_ne e, Array.getElem?_setIfInBounds_ne e]
  exact h3 i hi
theorem grown_set (W : World) (g j : Nat) (v : Value) : W.grownBy (W.setCell ⟨g, j, none⟩ v) (some g) :=
 ⟨rfl, rfl, rfl, Nat.le_of_eq (by simp), fun k _ hk => Below.heap_setCell W ⟨g, j, none⟩ v k (fun e => hk (by rw [e]))⟩
set_option maxHeartbeats 4000000 in
set_option maxRecDepth 100000 in
theorem markBw_calls (base : Nat) (A : Option Addr) (cap : Nat) (l : List Int) (k : Int) (w : World) (hr : Bw w base A cap l) (h0 : 0 ≤ k) (h1 : k + l.length ≤ 1099511627776) :
  Calls Tryd.prog 11 #[.slice A l.length cap, .int .i64 k] w fun e w' => e = .returned (.int .i64 (k + l.length)) ∧ Bw w' base A cap (markByteSL l.length k) ∧ ∃ row, w.grownBy w' row ∧ ∀ g, row = some g → base ≤ g := by
 have HK0 := amZ h0
 have HK1 := amZ h1
 by_cases hl : l.length = 0
 ·
  obtain rfl : l = [] := List.length_eq_zero_iff.1 hl
  have HR := amZ hr
  clear hr hl h0 h1
  go_enter Tryd.func11, Tryd.ntmps11
  go_wp2
  go_loopg [1, 5] 0 (fun g v1 v5 wr => v1 = .int .i64 k ∧ v5 = .int .i64 0 ∧ w = wr)
  case atStart => exact ⟨rfl, rfl, rfl⟩
  case round =>
   obtain ⟨rfl, rfl, rfl⟩ := hrel
   go_wp2
   go_ret
   exact ⟨ret_i64 (by simp), by simpa [markByteSL] using HR.out, none, ⟨rfl, rfl, rfl, Nat.le_refl _, fun _ _ _ => rfl⟩, fun _ h => by cases h⟩
 obtain ⟨g, cells, rfl, hbg, hb1, hb2, hb3⟩ := hr.at_ (by omega)
 have HM := amZ hr.mx
 have HLE := amZ hr.le
 have HBG := amZ hbg
 have HR : Aside0 (Bk w g l) := ⟨⟨cells, hb1, hb2, hb3⟩⟩
 clear hr hl h0 h1 hb1 hb2 hb3 hbg
 go_enter Tryd.func11, Tryd.ntmps11
 go_wp2
 go_loopg [1, 5] l.length (fun gg v1 v5 wr => ∃ j : Nat, v1 = .int .i64 (k + (j : Int)) ∧ v5 = .int .i64 (j : Int) ∧ Aside0 (j + gg = l.length) ∧ Aside0 (Bk wr g (markByteSL j k ++ l.drop j)) ∧ Aside0 (w.grownBy wr (some g)))
 case atStart => exact ⟨0, i64_num (by simp), rfl, ⟨by omega⟩, ⟨by simpa [markByteSL] using HR.out⟩, ⟨rfl, rfl, rfl, Nat.le_refl _, fun _ _ _ => rfl⟩⟩
 case round =>
  obtain ⟨j, rfl, rfl, hj, hR, hG⟩ := hrel
  by_cases hlt : j < l.length
  ·
   have p : 0 ≤ (j : Int) := by omega
   have q : (j : Int) < (l.length : Int) := by omega
   have hd : l.drop j = l[j] :: l.drop (j + 1) := List.drop_eq_getElem_cons hlt
   have hset : (markByteSL j k ++ l.drop j).set (j : Int).toNat ((k + (j : Int)) % 256) = markByteSL (j + 1) k ++ l.drop (j + 1) := by
    rw [hd, Int.toNat_natCast, set_mid _ _ _ _ _ (markByteSL_length _ _), markByteSL_snoc]
   have hlen : (markByteSL j k ++ l.drop j).length = l.length := by simp [markByteSL_length]; omega
   obtain ⟨hx0', hf0⟩ := hR.out.cell j (by rw [hlen]; exact hlt)
   obtain ⟨x0, hx0⟩ : ∃ x, wr.cell? ⟨g, j, none⟩ = some x := ⟨_, hx0'⟩
   clear hx0'
   have hseg := hR.out.put j (by rw [hlen]; exact hlt) ((k + (j : Int)) % 256)
   rw [Int.toNat_natCast] at hset
   rw [hset] at hseg
   have HS := amZ hseg
   have HGR := amZ (grown_set wr g j (.int .u8 ((k + (j : Int)) % 256)))
   have HL := amZ hlt
   have k0 : 0 ≤ k + (j : Int) := by have := HK0.out; omega
   have k1 : k + (j : Int) + 1 ≤ 1099511627776 := by have := HK1.out; omega
   have hdl : decide ((j : Int) < (l.length : Int)) = true := decide_eq_true q
   have hdn : decide (j < l.length) = true := decide_eq_true hlt
   have HG2 := amZ hG.out
   generalize hkj : k + (j : Int) = kj at *
   have HKJ := amZ hkj
   replace p := eq_true p
   replace q := eq_true q
   clear hd hset hseg hlen hlt hR hG hkj
   go_wp2
   go_roundg (l.length - (j + 1))
   case measure => have := hj.out; have := HL.out; omega
   case rel => exact ⟨j + 1, i64_num (by have := HKJ.out; omega), i64_next HL.out HM.out, ⟨by have := HL.out; omega⟩, ⟨HS.out⟩, ⟨grown_trans HG2.out HGR.out⟩⟩
  ·
   have hdl : decide ((j : Int) < (l.length : Int)) = false := decide_eq_false (by omega)
   have hdn : decide (j < l.length) = false := decide_eq_false hlt
   have hjl : j = l.length := by have := hj.out; omega
   have HJ := amZ hjl
   clear hlt hjl
   go_wp2
   go_ret
   have e := HJ.out
   subst e
   have hB := hR.out
   rw [List.drop_length, List.append_nil] at hB
   obtain ⟨cells, h1, h2, h3⟩ := hB.ex
   exact ⟨rfl, ⟨by rw [markByteSL_length]; exact HLE.out, by rw [markByteSL_length]; exact HM.out, fun _ => ⟨g, cells, rfl, HBG.out, h1, h2, h3⟩⟩, some g, hG.out, fun _ h => by injection h with h; subst h; exact HBG.out⟩
end Go.Proofs.YtmmpiojekgfdjaaDoor.C
