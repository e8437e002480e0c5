/- ListProgram. -/
import Derived.Test.YtmmpiojekgfdjaaDoorZpB0
import Derived.Test.YtmmpiojekgfdjaaDoorZpBf
import Derived.Test.YtmmpiojekgfdjaaDoorZpH2
import Derived.Test.YtmmpiojekgfdjaaDoorZpK
namespace Go.Proofs.YtmmpiojekgfdjaaDoor.C
open Go.RowKit YtmmpiojekgfdjaaDoorW.PrintWords YtmmpiojekgfdjaaDoorW.PrintLast
set_option linter.unusedVariables false
set_option linter.unusedSimpArgs false
def decL (v : Int) : List Int := (Lib.itoa v).map fun c => (c.toNat : Int)
def IntOK (v : Int) : Prop := -9223372036854775808 ≤ v ∧ v ≤ 9223372036854775807
def decS (v : Int) : ByteArray := strOfNums (decL v)
set_option maxHeartbeats 1000000 in
set_option maxRecDepth 100000 in
theorem dec_calls (v : Int) (w : World) (hw : PowTab w) (hv : IntOK v) :
  Calls Tryd.prog 23 #[.int .i64 v] w fun e w' => e = .returned (.string (decS v)) ∧ Below w.heap.size w w' := by
 have HW := amZ hw
 have HV : Aside0 (impl_FormatInt.f v = some (decL v)) := ⟨if_pos hv⟩
 clear hw hv
 go_enter Tryd.func23, Tryd.ntmps23
 go_wp2_with fail
 refine (impl_FormatInt.calls v _ w HW.out HV.out).mono ?_
 rintro e w1 ⟨u, rfl, hu, hb⟩
 obtain ⟨A, c, rfl⟩ := Kd.R_slice hu
 have kc : (convert 27 9 (.slice A (decL v).length c)).run Tryd.prog w1 = .ok (.string (decS v)) w1 := Kd.C_string Tryd.underlying27 Tryd.underlying5 Tryd.underlying9 (Kd.R_reads' hu).2.2
 have HB := amZ hb
 clear hu hb
 go_wp2_with fail
 go_ret
 exact ⟨rfl, HB.out⟩
theorem strC_at {W : World} {A : Option Addr} {xs : List ByteArray} (h : Kd.C Kd.string W A xs.length xs) {j : Nat} (hj : j < xs.length) : ∃ a : Addr, A = some a ∧ W.cell? (a.add j) = some (.string xs[j]) := by
 obtain ⟨a, rfl, hh⟩ := h.2.2 (by omega)
 refine ⟨a, rfl, ?_⟩
 obtain ⟨cs, h1, h2, h3⟩ := hh j _ (List.getElem?_eq_getElem hj)
 have e : cs = [.string xs[j]] := h2
 subst e
 have h0 := h3 0 _ rfl
 rw [show Kd.string.sz = 1 from rfl, Nat.mul_one, Nat.add_zero] at h0
 exact h0
theorem bytesOf_app (a b : ByteArray) : bytesOf (a ++ b) = bytesOf a ++ bytesOf b := by
 simp [bytesOf, ByteArray.data_append]
def lineL (start : ByteArray) (parts : List ByteArray) : List Int := bytesOf start ++ (parts.flatMap (fun s => 32 :: bytesOf s) ++ [10])
theorem partsL_len (parts : List ByteArray) : (parts.flatMap (fun s => 32 :: bytesOf s)).length = (parts.map fun s => 1 + s.size).sum := by
 induction parts with
 | nil => rfl
 | cons p parts ih => rw [List.flatMap_cons, List.length_append, List.map_cons, List.sum_cons, ih, List.length_cons, bytesOf_length]; omega
theorem take_sum (parts : List ByteArray) {j : Nat} (hj : j < parts.length) : ((parts.take j).map fun s => 1 + s.size).sum + (1 + parts[j].size) ≤ (parts.map fun s => 1 + s.size).sum := by
 have e := List.take_append_drop j parts
 have h2 : (parts.map fun s => 1 + s.size).sum = ((parts.take j).map fun s => 1 + s.size).sum + ((parts.drop j).map fun s => 1 + s.size).sum := by
  conv => lhs; rw [← e]
  rw [List.map_append, List.sum_append]
 rw [h2, List.drop_eq_getElem_cons hj, List.map_cons, List.sum_cons]
 omega
theorem strR_keep {W W1 : World} {B b : Nat} {v : Value} {ps : List ByteArray} (h : Kd.R Kd.string 9 W B (fun _ => True) v ps) (ho : OthersK b W W1) (hb : b < B) : Kd.R Kd.string 9 W1 B (fun _ => True) v ps := by
 refine Kd.R_mono (Kd.R_step (Kd.R_tight rfl h) (fun k hk _ => ?_)) (fun _ _ => trivial)
 obtain ⟨cells, hc⟩ := Kd.R_typed h k hk.symm
 have hB := Kd.R_base h k hk.symm
 exact (ho k cells 9 (by omega) (by decide) hc).trans hc.symm
set_option maxHeartbeats 4000000 in
set_option maxRecDepth 100000 in
theorem line_calls (b : Nat) (xs : List Int) (start : ByteArray) (parts : List ByteArray) (A : Option Addr) (c : Nat) (w : World) (h : Bd b xs w) (hp : Kd.R Kd.string 9 w (b + 1) (fun _ => True) (.slice A parts.length c) parts)
  (hl : xs.length + (lineL start parts).length ≤ 100000000000) (hn : parts.length ≤ 1000000) :
  Calls Tryd.prog 21 #[.string start, .slice A parts.length c, .pointer (some ⟨b, 0, none⟩)] w fun e w' => e = .returned (.tuple #[]) ∧ Bd b (xs ++ lineL start parts) w' ∧ Below b w w' ∧ OthersK b w w' := by
 have HD := amZ h
 have HP := amZ hp
 have HN := amZ hn
 have HL : Aside0 (xs.length + (start.size + ((parts.map fun s => 1 + s.size).sum + 1)) ≤ 100000000000) := ⟨by unfold lineL at hl; simp only [List.length_append, bytesOf_length, partsL_len, List.length_singleton] at hl; exact hl⟩
 clear h hp hl hn
 go_enter Tryd.func21, Tryd.ntmps21
 go_wp2_with fail
 refine (ws_calls b xs start w HD.out (by have := HL.out; omega)).mono ?_
 rintro e w1 ⟨rfl, hd, hb, ho⟩
 have HD1 := amZ hd
 have HP1 := amZ (strR_keep HP.out ho (Nat.lt_succ_self b))
 have HB1 := amZ hb
 have HO1 := amZ ho
 clear hd hb ho HD HP
 go_wp2_with fail
 go_loopg [11] parts.length (fun g v11 wr => ∃ j : Nat, v11 = .int .i64 (j : Int) ∧ Aside0 (j + g = parts.length) ∧ Aside0 (Bd b ((xs ++ bytesOf start) ++ (parts.take j).flatMap (fun s => 32 :: bytesOf s)) wr) ∧ Aside0 (Kd.R Kd.string 9 wr (b + 1) (fun _ => True) (.slice A parts.length c) parts) ∧ Aside0 (Below b w wr) ∧ Aside0 (OthersK b w wr))
 case atStart => exact ⟨0, rfl, ⟨by omega⟩, ⟨by simpa using HD1.out⟩, HP1, HB1, HO1⟩
 case round =>
  clear HD1 HP1 HB1 HO1
  obtain ⟨j, rfl, hj, HD, HP, HB, HO⟩ := hrel
  by_cases hlt : j < parts.length
  ·
   have d1 : decide ((j : Int) < (parts.length : Int)) = true := decide_eq_true (by omega)
   obtain ⟨a, ha, hx⟩ := strC_at (Kd.R_reads' HP.out).2.2 hlt
   subst ha
   have HLT := amZ hlt
   have HS : Aside0 ((parts.take (j + 1)).flatMap (fun s => 32 :: bytesOf s) = (parts.take j).flatMap (fun s => 32 :: bytesOf s) ++ bytesOf (⟨#[32]⟩ ++ parts[j])) := ⟨by
    rw [List.take_succ_eq_append_getElem hlt, List.flatMap_append, List.flatMap_singleton, bytesOf_app]
    rfl⟩
   have HLE : Aside0 (((xs ++ bytesOf start) ++ (parts.take j).flatMap (fun s => 32 :: bytesOf s)).length + (⟨#[32]⟩ ++ parts[j] : ByteArray).size ≤ 140737488355328) := ⟨by
    have h1 := take_sum parts hlt
    have := HL.out
    simp only [List.length_append, bytesOf_length, partsL_len, ByteArray.size_append]
    have h2 : (⟨#[32]⟩ : ByteArray).size = 1 := rfl
    omega⟩
   have hz : 1 + parts[j].size ≤ 9223372036854775807 := by
    have h1 := take_sum parts hlt
    have := HL.out
    omega
   have hz1 : decide (1 + parts[j].size ≤ 9223372036854775807) = true := decide_eq_true hz
   have hz2 : (9223372036854775807 < 1 + parts[j].size) = False := eq_false (Nat.not_lt.2 hz)
   replace hz := eq_true hz
   go_wp2_with fail
   refine (ws_calls b _ _ wr HD.out HLE.out).mono ?_
   rintro e w2 ⟨rfl, hd, hb, ho⟩
   rw [List.append_assoc, ← HS.out] at hd
   have HD2 := amZ hd
   have HP2 := amZ (strR_keep HP.out ho (Nat.lt_succ_self b))
   have HB2 := amZ (HB.out.trans hb)
   have HO2 := amZ (HO.out.trans ho)
   clear hd hb ho
   go_wp2_with fail
   go_roundg (parts.length - (j + 1))
   case measure => have := hj.out; have := HLT.out; omega
   case rel => exact ⟨j + 1, i64_next HLT.out (by have := HN.out; omega), ⟨by have := HLT.out; omega⟩, HD2, HP2, HB2, HO2⟩
  ·
   have d1 : decide ((j : Int) < (parts.length : Int)) = false := decide_eq_false (by omega)
   have HT : Aside0 (parts.take j = parts) := ⟨List.take_of_length_le (by omega)⟩
   have HDf : Aside0 (Bd b ((xs ++ bytesOf start) ++ parts.flatMap (fun s => 32 :: bytesOf s)) wr) := ⟨by have := HD.out; rwa [HT.out] at this⟩
   clear HD
   go_wp2_with fail
   refine (ws_calls b _ _ wr HDf.out (by have := HL.out; simp only [List.length_append, bytesOf_length, partsL_len]; have h2 : (⟨#[10]⟩ : ByteArray).size = 1 := rfl; omega)).mono ?_
   rintro e w2 ⟨rfl, hd, hb, ho⟩
   have HD2 := amZ hd
   have HB2 := amZ (HB.out.trans hb)
   have HO2 := amZ (HO.out.trans ho)
   clear hd hb ho
   go_wp2_with fail
   go_end0
   exact ⟨rfl, by have := HD2.out; unfold lineL; rw [List.append_assoc, List.append_assoc] at this; exact this, HB2.out, HO2.out⟩
end Go.Proofs.YtmmpiojekgfdjaaDoor.C
