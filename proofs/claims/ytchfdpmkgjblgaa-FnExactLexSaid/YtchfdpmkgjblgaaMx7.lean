-- Laid by a program of this session (pp.py) over the kit's printer; repaired and widened by hand-written contracts. Lean checks it.
import Derived.Test.YtchfdpmkgjblgaaMx0
namespace Go.Proofs.Ytchfdpmkgjblgaa.M
open Go.RowKit Go.Proofs.YtchfdpmkgjblgaaW.PrintWords Go.Proofs.YtchfdpmkgjblgaaW.PrintLast Go.Proofs.YtchfdpmkgjblgaaW.PrintMore
attribute [local go_sem] max2_int min2_int max_two min_two max_three min_three max_four min_four   -- for this text's walks alone
set_option linter.unusedVariables false
set_option linter.unusedSimpArgs false

/-! ### impl_escaped: function 43 -/
def impl_escaped.f (a0 : Int) : Option (Int × Bool) := some (if wrap32 a0 = 110 then (10, true) else if wrap32 a0 = 116 then (9, true) else if wrap32 a0 = 92 then (92, true) else if wrap32 a0 = 34 then (34, true) else if wrap32 a0 = 39 then (39, true) else (0, false))
abbrev escS : ByteArray := { data := #[110, 116, 92, 34, 39] }
theorem esc_next {P : Program} (w : World) (pos : Nat) (c : Nat) (h : pos < escS.size) (hc : (escS[pos]'h).toNat = c) (ha : c < 128) (ty : TypeId) :
  (Instr.next (.pointer (some ⟨w.heap.size, 0, none⟩)) true ty).run P (w.iter escS pos) = .ok (.tuple #[.bool true, .int .i64 pos, .int .i32 c]) (w.iter escS (pos + 1)) := by
 have := run_next_ascii (P := P) w escS pos ty h (by omega)
 rw [hc] at this
 exact this
theorem esc_end {P : Program} (w : World) (ty : TypeId) :
  (Instr.next (.pointer (some ⟨w.heap.size, 0, none⟩)) true ty).run P (w.iter escS 5) = .ok (.tuple #[.bool false]) (w.iter escS 5) := run_next_end w escS 5 ty (by decide)
def escOpen (c : Int) (pos : Nat) : Prop := (0 < pos → c ≠ 110) ∧ (1 < pos → c ≠ 116) ∧ (2 < pos → c ≠ 92) ∧ (3 < pos → c ≠ 34) ∧ (4 < pos → c ≠ 39)
theorem esc_iterPos (w : World) (s : ByteArray) (pos : Nat) : (w.iter s pos).iterPos w.heap.size = pos := iterPos_of (World.iter_heap w s pos)
set_option maxHeartbeats 4000000 in
set_option maxRecDepth 100000 in
theorem impl_escaped.calls (a0 : Int) (r1 : Int) (r2 : Bool) (w : World) (h : impl_escaped.f a0 = some (r1, r2)) :
  Calls Try.prog 43 #[.int .u8 a0] w fun e w' => e = .returned (.tuple #[.int .u8 r1, .bool r2]) ∧ Below w.heap.size w w' := by
 have H := Aside0.mk h
 clear h
 have n0 := esc_next (P := Try.prog) w 0 110 (by decide) (by decide) (by decide)
 have n1 := esc_next (P := Try.prog) w 1 116 (by decide) (by decide) (by decide)
 have n2 := esc_next (P := Try.prog) w 2 92 (by decide) (by decide) (by decide)
 have n3 := esc_next (P := Try.prog) w 3 34 (by decide) (by decide) (by decide)
 have n4 := esc_next (P := Try.prog) w 4 39 (by decide) (by decide) (by decide)
 have n5 := esc_end (P := Try.prog) w
 go_enter Try.func43, Try.ntmps43
 go_wp2
 go_loopw [2, 3] (fun v2 v3 w' => v2 = .int .u8 0 ∧ v3 = .bool false ∧ ∃ pos, w' = w.iter escS pos ∧ pos ≤ 5 ∧ Aside0 (escOpen (wrap32 a0) pos)) (fun _ _ w' => 5 - w'.iterPos w.heap.size)
 case atStart => exact ⟨rfl, rfl, 0, rfl, by omega, ⟨by simp [escOpen]⟩⟩
 case round =>
  obtain ⟨rfl, rfl, pos, rfl, hp, ho⟩ := hrel
  match pos, hp, ho with
  | 0, _, ho =>
   by_cases hc : wrap32 a0 = 110
   ·
    have hb : (wrap32 a0 == 110) = true := beq_iff_eq.mpr hc
    have hr := Aside0.mk hc
    clear hc
    go_wp2
    have hv : some ((10 : Int), true) = some (r1, r2) := by
     rw [← H.out]; simp [impl_escaped.f, hr.out]
    obtain ⟨rfl, rfl⟩ := Prod.mk.inj (Option.some.inj hv)
    go_ret2
    exact ⟨rfl, (Below.refl _ _).alloc (Nat.le_refl _) _⟩
   ·
    have hb : (wrap32 a0 == 110) = false := beq_eq_false_iff_ne.mpr hc
    have hr := Aside0.mk hc
    clear hc
    go_wp2
    go_roundw
    case rel => exact ⟨rfl, rfl, 1, rfl, by omega, ⟨by have := ho.out; have := hr.out; simp [escOpen] at *; simp [*]⟩⟩
    case measure => simp [esc_iterPos]
  | 1, _, ho =>
   by_cases hc : wrap32 a0 = 116
   ·
    have hb : (wrap32 a0 == 116) = true := beq_iff_eq.mpr hc
    have hr := Aside0.mk hc
    clear hc
    go_wp2
    have hv : some ((9 : Int), true) = some (r1, r2) := by
     rw [← H.out]; simp [impl_escaped.f, hr.out]
    obtain ⟨rfl, rfl⟩ := Prod.mk.inj (Option.some.inj hv)
    go_ret2
    exact ⟨rfl, (Below.refl _ _).alloc (Nat.le_refl _) _⟩
   ·
    have hb : (wrap32 a0 == 116) = false := beq_eq_false_iff_ne.mpr hc
    have hr := Aside0.mk hc
    clear hc
    go_wp2
    go_roundw
    case rel => exact ⟨rfl, rfl, 2, rfl, by omega, ⟨by have := ho.out; have := hr.out; simp [escOpen] at *; simp [*]⟩⟩
    case measure => simp [esc_iterPos]
  | 2, _, ho =>
   by_cases hc : wrap32 a0 = 92
   ·
    have hb : (wrap32 a0 == 92) = true := beq_iff_eq.mpr hc
    have hr := Aside0.mk hc
    clear hc
    go_wp2
    have hv : some ((92 : Int), true) = some (r1, r2) := by
     rw [← H.out]; simp [impl_escaped.f, hr.out]
    obtain ⟨rfl, rfl⟩ := Prod.mk.inj (Option.some.inj hv)
    go_ret2
    exact ⟨rfl, (Below.refl _ _).alloc (Nat.le_refl _) _⟩
   ·
    have hb : (wrap32 a0 == 92) = false := beq_eq_false_iff_ne.mpr hc
    have hr := Aside0.mk hc
    clear hc
    go_wp2
    go_roundw
    case rel => exact ⟨rfl, rfl, 3, rfl, by omega, ⟨by have := ho.out; have := hr.out; simp [escOpen] at *; simp [*]⟩⟩
    case measure => simp [esc_iterPos]
  | 3, _, ho =>
   by_cases hc : wrap32 a0 = 34
   ·
    have hb : (wrap32 a0 == 34) = true := beq_iff_eq.mpr hc
    have hr := Aside0.mk hc
    clear hc
    go_wp2
    have hv : some ((34 : Int), true) = some (r1, r2) := by
     rw [← H.out]; simp [impl_escaped.f, hr.out]
    obtain ⟨rfl, rfl⟩ := Prod.mk.inj (Option.some.inj hv)
    go_ret2
    exact ⟨rfl, (Below.refl _ _).alloc (Nat.le_refl _) _⟩
   ·
    have hb : (wrap32 a0 == 34) = false := beq_eq_false_iff_ne.mpr hc
    have hr := Aside0.mk hc
    clear hc
    go_wp2
    go_roundw
    case rel => exact ⟨rfl, rfl, 4, rfl, by omega, ⟨by have := ho.out; have := hr.out; simp [escOpen] at *; simp [*]⟩⟩
    case measure => simp [esc_iterPos]
  | 4, _, ho =>
   by_cases hc : wrap32 a0 = 39
   ·
    have hb : (wrap32 a0 == 39) = true := beq_iff_eq.mpr hc
    have hr := Aside0.mk hc
    clear hc
    go_wp2
    have hv : some ((39 : Int), true) = some (r1, r2) := by
     rw [← H.out]; simp [impl_escaped.f, hr.out]
    obtain ⟨rfl, rfl⟩ := Prod.mk.inj (Option.some.inj hv)
    go_ret2
    exact ⟨rfl, (Below.refl _ _).alloc (Nat.le_refl _) _⟩
   ·
    have hb : (wrap32 a0 == 39) = false := beq_eq_false_iff_ne.mpr hc
    have hr := Aside0.mk hc
    clear hc
    go_wp2
    go_roundw
    case rel => exact ⟨rfl, rfl, 5, rfl, by omega, ⟨by have := ho.out; have := hr.out; simp [escOpen] at *; simp [*]⟩⟩
    case measure => simp [esc_iterPos]
  | 5, _, ho =>
   go_wp2
   have hv : some ((0 : Int), false) = some (r1, r2) := by
    obtain ⟨h0, h1, h2, h3, h4⟩ := ho.out
    rw [← H.out]
    simp [impl_escaped.f, h0 (by omega), h1 (by omega), h2 (by omega), h3 (by omega), h4 (by omega)]
   obtain ⟨rfl, rfl⟩ := Prod.mk.inj (Option.some.inj hv)
   go_ret2
   exact ⟨rfl, (Below.refl _ _).alloc (Nat.le_refl _) _⟩



end Go.Proofs.Ytchfdpmkgjblgaa.M
