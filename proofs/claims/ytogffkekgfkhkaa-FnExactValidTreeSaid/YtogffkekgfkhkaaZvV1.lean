/- The methods of a node; the small questions. -/
import Derived.Test.YtogffkekgfkhkaaZvV0
import Derived.Shelf.Abstract
import Derived.Test.YtogffkekgfkhkaaZvK
namespace Go.Proofs.Ytogffkekgfkhkaa.C
open Go.RowKit Go.Proofs.YtogffkekgfkhkaaW.PrintWords Go.Proofs.YtogffkekgfkhkaaW.PrintLast Go.Proofs.YtogffkekgfkhkaaW.PrintMore
set_option linter.unusedVariables false
set_option linter.unusedSimpArgs false
theorem info39 : (Try.prog.info? 39).map (fun i => (i.zero, i.size, i.bytes)) = some (some .nilIface, 1, 16) := by kernel_rfl
theorem blk_cell {w : World} {b : Nat} {cells : Array Value} {t : TypeId} {r : Nat × Nat} (h : w.heap[b]? = some (.cells cells t r)) (j : Nat) : w.cell? ⟨b, j, none⟩ = cells[j]? := by
  simp [World.cell?, h]
/-- the cells of a node's own fields -/
structure NKd (d : Kd NV) : Prop where
  f : ∀ {w h cs}, d.K w h cs → ∃ v2 v3, cs = [.int .i64 h.f0, .int .i64 h.f1, v2, v3, .int .i64 h.f4]
theorem nkd34 : NKd k34 := ⟨fun h => by obtain ⟨A2, c2, A3, c3, e, _⟩ := k34_open h; exact ⟨_, _, e⟩⟩
theorem nkdFixed (w0 : World) : NKd (Kd.fixed k34 w0) := ⟨fun {w h cs} hk => nkd34.f (w := w0) hk⟩
def NodeAt (d : Kd NV) (w : World) (b : Nat) (h : NV) (k : Fo) : Prop :=
  ∃ v2 v3 A c, w.heap[b]? = some (.cells #[.int .i64 h.f0, .int .i64 h.f1, v2, v3, .int .i64 h.f4, .slice A k.trees.length c] 70 (0, 0)) ∧ d.K w h [.int .i64 h.f0, .int .i64 h.f1, v2, v3, .int .i64 h.f4] ∧ k.trees.length ≤ c ∧ (kn d).C w A k.trees.length k.trees
theorem kn_open {d : Kd NV} (hd : NKd d) {w : World} {t : NV × Fo} {cs : List Value} (hk : (kn d).K w t cs) : ∃ b, cs = [nv b] ∧ NodeAt d w b t.1 t.2 := by
  obtain ⟨n, hn⟩ := hk
  cases n with
  | zero => exact hn.elim
  | succ n =>
    obtain ⟨b, cells, rfl, hh, cs1, cs2, e, h1, h2⟩ := hn
    obtain ⟨A, c, rfl, hl, hC⟩ := h2
    obtain ⟨v2, v3, rfl⟩ := hd.f h1
    obtain ⟨cells⟩ := cells
    simp only [List.cons_append, List.nil_append] at e
    subst e
    exact ⟨b, rfl, v2, v3, A, c, hh, h1, hl, Kd.fix_C hC⟩
theorem NodeAt.below {d : Kd NV} {w w1 : World} {b : Nat} {h : NV} {k : Fo} (hb : Below w.heap.size w w1) (hn : NodeAt d w b h k) : NodeAt d w1 b h k := by
  obtain ⟨v2, v3, A, c, h1, h2, h3, h4⟩ := hn
  exact ⟨v2, v3, A, c, (hb.block b (blk_lt h1)).trans h1, d.K_below hb h2, h3, Kd.C_below h4 hb⟩
theorem kn_at {d : Kd NV} (hd : NKd d) {w : World} {A : Option Addr} {n : Nat} {ts : List (NV × Fo)} (h : (kn d).C w A n ts) (j : Nat) (hj : j < ts.length) :
    ∃ ad b, A = some ad ∧ w.cell? (ad.add j) = some (nv b) ∧ NodeAt d w b ts[j].1 ts[j].2 := by
  have hn : ts.length = n := h.1
  obtain ⟨ad, c, e, _, hK, hc⟩ := Kd.C_get h (⟨0, 0, [], [], 0⟩, Fo.nil) (j : Int) (by omega) (by omega)
  rw [Int.toNat_natCast, List.getD_eq_getElem?_getD, List.getElem?_eq_getElem hj, Option.getD_some] at hK
  rw [Int.toNat_natCast] at hc
  obtain ⟨b, rfl, hN⟩ := kn_open hd hK
  have := hc 0 _ rfl
  rw [show (kn d).sz = 1 from rfl, Nat.mul_one, Nat.add_zero] at this
  exact ⟨ad, b, e, this, hN⟩
theorem NodeAt.c0 {d : Kd NV} {w : World} {b : Nat} {h : NV} {k : Fo} (hn : NodeAt d w b h k) : w.cell? ⟨b, 0, none⟩ = some (.int .i64 h.f0) := by
  obtain ⟨v2, v3, A, c, h1, -⟩ := hn
  exact (blk_cell h1 0).trans rfl
theorem NodeAt.kids {d : Kd NV} {w : World} {b : Nat} {h : NV} {k : Fo} (hn : NodeAt d w b h k) : ∃ A c, w.cell? ⟨b, 5, none⟩ = some (.slice A k.trees.length c) ∧ k.trees.length ≤ c ∧ (kn d).C w A k.trees.length k.trees := by
  obtain ⟨v2, v3, A, c, h1, h2, h3, h4⟩ := hn
  exact ⟨A, c, (blk_cell h1 5).trans rfl, h3, h4⟩
theorem method_head (a : Addr) (w : World) : Sem.run Try.prog (method 207 67 (.pointer (some a)) "loop.example/s02245/impl.head") w = .ok (81, .pointer (some a)) w := by kernel_rfl
theorem method_kids (a : Addr) (w : World) : Sem.run Try.prog (method 207 67 (.pointer (some a)) "loop.example/s02245/impl.kids") w = .ok (82, .pointer (some a)) w := by kernel_rfl
set_option maxHeartbeats 4000000 in
theorem head_calls (b : Nat) (w : World) (v0 : Value) (hc : w.cell? ⟨b, 0, none⟩ = some v0) : Calls Try.prog 81 #[pv b] w fun e w' => e = .returned (pv b) ∧ w = w' := by
  go_enter Try.func81, Try.ntmps81
  go_wp2
  go_ret
  exact ⟨rfl, rfl⟩
set_option maxHeartbeats 4000000 in
theorem kids_calls (b : Nat) (w : World) (v5 : Value) (hc : w.cell? ⟨b, 5, none⟩ = some v5) : Calls Try.prog 82 #[pv b] w fun e w' => e = .returned v5 ∧ w = w' := by
  go_enter Try.func82, Try.ntmps82
  go_wp2
  go_ret
  exact ⟨rfl, rfl⟩
def isExprB (k : Int) : Bool := decide (11 ≤ k) && decide (k ≤ 25)
def isStatB (k : Int) : Bool := (decide (1 ≤ k) && decide (k ≤ 10)) || decide (k = 26)
set_option maxHeartbeats 4000000 in
theorem isExpr_calls (b : Nat) (w : World) (f0 : Int) (hc : w.cell? ⟨b, 0, none⟩ = some (.int .i64 f0)) : Calls Try.prog 44 #[nv b] w fun e w' => e = .returned (.bool (isExprB f0)) ∧ w = w' := by
  have hm := method_head
  unfold isExprB
  by_cases h1 : 11 ≤ f0
  · have d1 : decide (11 ≤ f0) = true := decide_eq_true h1
    rw [d1, Bool.true_and]
    clear h1
    go_enter Try.func44, Try.ntmps44
    go_wp2_with (go_at_call 81; refine (head_calls b w _ hc).mono ?_; rintro e w1 ⟨rfl, rfl⟩)
    go_ret
    exact ⟨rfl, rfl⟩
  · have d1 : decide (11 ≤ f0) = false := decide_eq_false h1
    rw [d1, Bool.false_and]
    clear h1
    go_enter Try.func44, Try.ntmps44
    go_wp2_with (go_at_call 81; refine (head_calls b w _ hc).mono ?_; rintro e w1 ⟨rfl, rfl⟩)
    go_ret
    exact ⟨rfl, rfl⟩
set_option maxHeartbeats 4000000 in
theorem isStat_calls (b : Nat) (w : World) (f0 : Int) (hc : w.cell? ⟨b, 0, none⟩ = some (.int .i64 f0)) : Calls Try.prog 43 #[nv b] w fun e w' => e = .returned (.bool (isStatB f0)) ∧ w = w' := by
  have hm := method_head
  have key : ∀ x y z : Bool, decide (1 ≤ f0) = x → decide (f0 ≤ 10) = y → decide (f0 = 26) = z → Calls Try.prog 43 #[nv b] w fun e w' => e = .returned (.bool ((x && y) || z)) ∧ w = w' := by
    intro x y z hx hy hz
    have hz' : (f0 == 26) = z := by rw [← hz]; rfl
    cases x <;> cases y <;> cases z <;>
    · go_enter Try.func43, Try.ntmps43
      go_wp2_with (go_at_call 81; refine (head_calls b w _ hc).mono ?_; rintro e w1 ⟨rfl, rfl⟩)
      go_ret
      exact ⟨rfl, rfl⟩
  exact key _ _ _ rfl rfl rfl
theorem i64_next {j n : Nat} (h : j < n) (hn : n ≤ 9223372036854775807) : Value.int .i64 (wrap64 ((j : Int) + 1)) = .int .i64 ((j + 1 : Nat) : Int) := by
  congr 1; unfold wrap64; omega
theorem ret_i64 {a b : Int} (h : a = b) : Ending.returned (.int .i64 a) = .returned (.int .i64 b) := by rw [h]
theorem ret_bool {a b : Bool} (h : a = b) : Ending.returned (.bool a) = .returned (.bool b) := by rw [h]
abbrev fnv (f : Nat) (lb : Array Value := #[]) : Value := .func (.func f) #[] lb
/-- Where p holds first, from place i on; -1 if nowhere. -/
def idxP {α : Type} (p : α → Bool) : List α → Nat → Int
  | [], _ => -1
  | c :: l, i => if p c = true then (i : Int) else idxP p l (i + 1)
theorem idxP_any {α : Type} (p : α → Bool) : ∀ (l : List α) (i : Nat), 0 ≤ idxP p l i ↔ l.any p = true
  | [], _ => by simp [idxP]
  | c :: l, i => by
    have ih := idxP_any p l (i + 1)
    unfold idxP
    rw [List.any_cons, Bool.or_eq_true]
    by_cases h : p c = true
    · rw [if_pos h]; exact ⟨fun _ => .inl h, fun _ => by omega⟩
    · rw [if_neg h, ih]; exact ⟨.inr, fun e => e.elim (fun e => absurd e h) id⟩
theorem idxP_dec {α : Type} (p : α → Bool) (l : List α) : decide (0 ≤ idxP p l 0) = l.any p := by rw [Bool.eq_iff_iff, decide_eq_true_eq, idxP_any]
theorem rd_nat (xs : List Int) (i : Nat) (h : i < xs.length) : rd xs (i : Int) = xs[i] := by
  simp [rd, List.getD_eq_getElem?_getD, h]
set_option maxHeartbeats 8000000 in
set_option maxRecDepth 100000 in
theorem index_calls (A0 : Option Addr) (c0 : Nat) (l0 : List Int) (x : Int) (w : World) (hr0 : Kd.C (Kd.int .i64) w A0 l0.length l0) :
    Calls Try.prog 57 #[.slice A0 l0.length c0, .int .i64 x] w fun e w' => e = .returned (.int .i64 (idxP (fun y => x == y) l0 0)) ∧ w = w' := by
  have HM := Aside0.mk (hr0.2.1)
  have HR0 := Aside0.mk hr0
  clear hr0
  go_enter Try.func57, Try.ntmps57
  go_wp2
  go_loopg [8, 5] l0.length (fun g v8 v5 wr => ∃ (j : Nat), v8 = .int .i64 (j : Int) ∧ Aside0 (j + g = l0.length) ∧ Aside0 (idxP (fun y => x == y) (l0.drop j) j = idxP (fun y => x == y) l0 0) ∧ w = wr)
  case atStart => exact ⟨0, rfl, ⟨by omega⟩, ⟨by simp⟩, rfl⟩
  case round =>
    obtain ⟨j, rfl, hj, hi, rfl⟩ := hrel
    by_cases hlt : j < l0.length
    · obtain ⟨ad, e, hx0⟩ := Kd.at_int HR0.out (j : Int) (by omega) (by omega)
      cases e
      rw [rd_nat l0 j hlt, Int.toNat_natCast] at hx0
      obtain ⟨c, hc⟩ : ∃ c, c = l0[j] := ⟨_, rfl⟩
      rw [← hc] at hx0
      have HI : Aside0 ((if (x == c) = true then (j : Int) else idxP (fun y => x == y) (l0.drop (j + 1)) (j + 1)) = idxP (fun y => x == y) l0 0) := ⟨by have := hi.out; rw [List.drop_eq_getElem_cons hlt, ← hc] at this; exact this⟩
      clear hc hi
      have p : (0 ≤ (j : Int)) = True := eq_true (by omega)
      have q : ((j : Int) < (l0.length : Int)) = True := eq_true (by omega)
      have hdl : decide ((j : Int) < (l0.length : Int)) = true := decide_eq_true (by omega)
      have hdn : decide (j < l0.length) = true := decide_eq_true hlt
      have HL := Aside0.mk hlt
      clear hlt
      cases hb : (x == c) with
      | true =>
        have HI2 := HI.out
        rw [hb, if_pos rfl] at HI2
        have HJ := Aside0.mk HI2
        clear HI HI2
        go_wp2
        go_ret
        exact ⟨ret_i64 HJ.out, rfl⟩
      | false =>
        have HI2 := HI.out
        rw [hb, if_neg (by simp)] at HI2
        have HJ := Aside0.mk HI2
        clear HI HI2
        go_wp2
        go_roundg (l0.length - (j + 1))
        case measure => have := hj.out; have := HL.out; omega
        case rel => exact ⟨j + 1, i64_next HL.out HM.out, ⟨by have := HL.out; omega⟩, HJ, rfl⟩
    · have e0 : (l0.drop j) = [] := List.drop_eq_nil_of_le (by omega)
      have HJ : Aside0 (idxP (fun y => x == y) l0 0 = -1) := ⟨by rw [← hi.out, e0]; rfl⟩
      have hdl : decide ((j : Int) < (l0.length : Int)) = false := decide_eq_false (by omega)
      have hdn : decide (j < l0.length) = false := decide_eq_false hlt
      clear e0 hi hlt
      go_wp2
      go_ret
      exact ⟨ret_i64 HJ.out.symm, rfl⟩
set_option maxHeartbeats 4000000 in
theorem contains_calls (A0 : Option Addr) (c0 : Nat) (l0 : List Int) (x : Int) (w : World) (hr0 : Kd.C (Kd.int .i64) w A0 l0.length l0) :
    Calls Try.prog 53 #[.slice A0 l0.length c0, .int .i64 x] w fun e w' => e = .returned (.bool (l0.any fun y => x == y)) ∧ w = w' := by
  rw [← idxP_dec]
  have HR0 := Aside0.mk hr0
  clear hr0
  go_enter Try.func53, Try.ntmps53
  go_wp2_with (go_at_call 57; refine (index_calls A0 c0 l0 x _ HR0.out).mono ?_; rintro e w1 ⟨rfl, rfl⟩)
  go_ret
  exact ⟨rfl, rfl⟩
/-- the variable of isKind's closure: the kinds -/
def KindBox (w : World) (B : Nat) (ks : List Int) : Prop := ∃ A c, w.cell? ⟨B, 0, none⟩ = some (.slice A ks.length c) ∧ Kd.C (Kd.int .i64) w A ks.length ks
theorem KindBox.below {w w1 : World} {B : Nat} {ks : List Int} (hb : Below w.heap.size w w1) (h : KindBox w B ks) : KindBox w1 B ks := by
  obtain ⟨A, c, h1, h2⟩ := h
  exact ⟨A, c, (hb.cell (World.block_lt_of_cell? w _ h1)).trans h1, Kd.C_below h2 hb⟩
set_option maxHeartbeats 4000000 in
theorem isKind_calls (A : Option Addr) (c : Nat) (ks : List Int) (w : World) (hr : Kd.C (Kd.int .i64) w A ks.length ks) :
    Calls Try.prog 42 #[.slice A ks.length c] w fun e w' => ∃ B, e = .returned (fnv 52 #[pv B]) ∧ KindBox w' B ks ∧ Below w.heap.size w w' := by
  have HR := Aside0.mk hr
  clear hr
  go_enter Try.func42, Try.ntmps42
  go_wp2
  go_ret
  refine ⟨w.heap.size, rfl, ⟨A, c, (blk_cell (heap_alloc_new w _) 0).trans rfl, Kd.C_below HR.out ((Below.refl _ _).alloc (Nat.le_refl _) _)⟩, (Below.refl _ _).alloc (Nat.le_refl _) _⟩
set_option maxHeartbeats 4000000 in
theorem isKind1_calls (B b : Nat) (ks : List Int) (f0 : Int) (w : World) (hB : KindBox w B ks) (hc : w.cell? ⟨b, 0, none⟩ = some (.int .i64 f0)) :
    Calls Try.prog 52 #[nv b, pv B] w fun e w' => e = .returned (.bool (ks.any fun y => f0 == y)) ∧ Below w.heap.size w w' := by
  obtain ⟨A, c, h1, h2⟩ := hB
  have HR := Aside0.mk h2
  clear h2
  have hm := method_head
  go_enter Try.func52, Try.ntmps52
  go_wp2
  go_region_with (first | (go_at_call 81; refine (head_calls b _ _ (by exact hc)).mono ?_; rintro e w1 ⟨rfl, rfl⟩) | (go_at_call 53; refine (contains_calls A c ks f0 _ (by first | exact HR.out | exact Kd.C_drew HR.out)).mono ?_; rintro e w1 ⟨rfl, rfl⟩))
  all_goals
    go_wp2
    go_ret
    exact ⟨rfl, below_drew1 (Below.refl _ _)⟩
end Go.Proofs.Ytogffkekgfkhkaa.C
