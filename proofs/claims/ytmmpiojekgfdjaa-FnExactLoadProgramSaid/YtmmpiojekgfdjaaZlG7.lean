/- The specification reads a program. -/
import Derived.Test.YtmmpiojekgfdjaaZlG4
import Derived.Test.YtmmpiojekgfdjaaZlG3
import Derived.Test.YtmmpiojekgfdjaaZlK
namespace Go.Proofs.Ytmmpiojekgfdjaa.C
open Go.RowKit YtmmpiojekgfdjaaW.PrintWords YtmmpiojekgfdjaaW.PrintLast
set_option linter.unusedVariables false
set_option linter.unusedSimpArgs false
structure Sg (w0 : World) (A : Option Addr) (c : Nat) (l : List Int) (bq br bo : Nat) (ok : Nat → Prop) (s : Rs) (cs : List S48) (ps : List S52) (W : World) : Prop where
  l : SpIs w0 A c l W bq s
  o : ∃ u0 u1, Bx w0.heap.size br bo ok u0 u1 cs ps W
structure Tb (bc : Nat) (v : Value) (y : List Int) (W : World) : Prop where
  f : W.heap[bc]? = some (.cells #[.bool true, .int .i64 0, v] 48 (0, 0))
  r : Kd.R (Kd.int .u8) 5 W (bc + 1) (fun _ => True) v y
section
variable {w0 W W1 : World} {A : Option Addr} {c : Nat} {l : List Int} {bq br bo n : Nat} {ok ok' : Nat → Prop} {s s1 : Rs} {cs : List S48} {ps : List S52}
theorem Sg.to (h : Sg w0 A c l bq br bo ok s cs ps W) (k : SpTo w0 A c l W bq W1 s1) : Sg w0 A c l bq br bo ok s1 cs ps W1 := by
  obtain ⟨u0, u1, o⟩ := h.o
  exact ⟨k.q, u0, u1, (k.one h.l).bx o⟩
theorem Sg.below (h : Sg w0 A c l bq br bo ok s cs ps W) (hb : Below W.heap.size W W1) : Sg w0 A c l bq br bo ok s cs ps W1 := by
  obtain ⟨u0, u1, o⟩ := h.o
  exact ⟨h.l.below hb, u0, u1, o.below hb⟩
theorem Sg.mono (h : Sg w0 A c l bq br bo ok s cs ps W) (hk : ∀ k, ok k → ok' k) : Sg w0 A c l bq br bo ok' s cs ps W := by
  obtain ⟨u0, u1, o⟩ := h.o
  exact ⟨h.l, u0, u1, o.mono hk⟩
theorem Sg.bound (h : Sg w0 A c l bq br bo ok s cs ps W) : Sg w0 A c l bq br bo (fun k => k < W.heap.size) s cs ps W := by
  obtain ⟨u0, u1, o⟩ := h.o
  exact ⟨h.l, u0, u1, o.bound⟩
theorem Sg.lts (h : Sg w0 A c l bq br bo ok s cs ps W) : bq < W.heap.size ∧ bo < W.heap.size ∧ w0.heap.size ≤ W.heap.size := by
  obtain ⟨u0, u1, o⟩ := h.o
  obtain ⟨c, hc⟩ := h.l.blk
  exact ⟨ziY hc, ziY o.o, h.l.b.size⟩
theorem Sg.belowN (h : Sg w0 A c l bq br bo (fun k => k < n) s cs ps W) (hb : Below n W W1) (hq : bq < n) (ho : bo < n) (hf : w0.heap.size ≤ n) : Sg w0 A c l bq br bo (fun k => k < n) s cs ps W1 := by
  obtain ⟨u0, u1, o⟩ := h.o
  exact ⟨h.l.move (h.l.b.trans (hb.mono hf)) (fun cells hc => (hb.block bq hq).trans hc), u0, u1, o.belowN hb ho⟩
theorem Sg.put0 {u0 u1 : Value} {y : S48} {A4 : Option Addr} {c4 : Nat} {w1 : World} (hl : SpIs w0 A c l W bq s) (hbo : W.heap[bo]? = some (.cells #[u0, u1] 31 (0, 0))) (h : Put0 w0.heap.size br bo u0 u1 cs ps w0 W y A4 c4 w1) : Sg w0 A c l bq br bo (fun _ => True) s (cs ++ [y]) ps (w1.setCell ⟨bo, 0, none⟩ (.slice A4 (cs.length + 1) c4)) := by
  obtain ⟨_, h1, h2, h3⟩ := h
  obtain ⟨cc, hc⟩ := hl.blk
  exact ⟨hl.move h2 (fun cells hcells => h3.2 bq cells 86 (by decide) (blk_ne hc hbo (by decide)) hcells), _, _, h1⟩
theorem Sg.put1 {u0 u1 : Value} {y : S52} {A4 : Option Addr} {c4 : Nat} {w1 : World} (hl : SpIs w0 A c l W bq s) (hbo : W.heap[bo]? = some (.cells #[u0, u1] 31 (0, 0))) (h : Put1 w0.heap.size br bo u0 u1 cs ps w0 W y A4 c4 w1) : Sg w0 A c l bq br bo (fun _ => True) s cs (ps ++ [y]) (w1.setCell ⟨bo, 1, none⟩ (.slice A4 (ps.length + 1) c4)) := by
  obtain ⟨_, h1, h2, h3⟩ := h
  obtain ⟨cc, hc⟩ := hl.blk
  exact ⟨hl.move h2 (fun cells hcells => h3.2 bq cells 86 (by decide) (blk_ne hc hbo (by decide)) hcells), _, _, h1⟩
theorem Fb.to' {bf : Nat} {n0 n1 : Int} {v2 v3 : Value} {ys : List S54} {zs : List S57} (h : Fb bf n0 n1 v2 v3 ys zs W) (k : One 86 bq W W1) : Fb bf n0 n1 v2 v3 ys zs W1 := k.fb h
theorem Fb.set0 {bf : Nat} {n0 n1 : Int} {v2 v3 : Value} {ys : List S54} {zs : List S57} (h : Fb bf n0 n1 v2 v3 ys zs W) (m : Int) : Fb bf m n1 v2 v3 ys zs (W.setCell ⟨bf, 0, none⟩ (.int .i64 m)) :=
  ⟨heap_setCell_same W bf 0 _ 52 _ h.f, Kd.R_set h.r2 h.f (by decide) 0 _, Kd.R_set h.r3 h.f (by decide) 0 _⟩
theorem Fb.set1 {bf : Nat} {n0 n1 : Int} {v2 v3 : Value} {ys : List S54} {zs : List S57} (h : Fb bf n0 n1 v2 v3 ys zs W) (m : Int) : Fb bf n0 m v2 v3 ys zs (W.setCell ⟨bf, 1, none⟩ (.int .i64 m)) :=
  ⟨heap_setCell_same W bf 1 _ 52 _ h.f, Kd.R_set h.r2 h.f (by decide) 1 _, Kd.R_set h.r3 h.f (by decide) 1 _⟩
theorem Tb.to {bc : Nat} {v : Value} {y : List Int} (h : Tb bc v y W) (k : One 86 bq W W1) : Tb bc v y W1 := ⟨k.blk h.f (by decide), k.R (by decide) h.r⟩
theorem Tb.put {bc : Nat} {v v1 : Value} {y : List Int} {x : Int} {w1 : World} (h : Tb bc v y W) (hr : Kd.R (Kd.int .u8) 5 w1 (bc + 1) (fun _ => True) v1 (y ++ [x])) (hg : W.grownBy w1 v.ownBlock) :
    w1.heap[bc]? = some (.cells #[.bool true, .int .i64 0, v] 48 (0, 0)) ∧ Tb bc v1 (y ++ [x]) (w1.setCell ⟨bc, 2, none⟩ v1) ∧ Below bc W (w1.setCell ⟨bc, 2, none⟩ v1) := by
  have hf : w1.heap[bc]? = some (.cells #[.bool true, .int .i64 0, v] 48 (0, 0)) := blk_grown h.f hg (Kd.R_ne h.r h.f (by decide))
  refine ⟨hf, ⟨heap_setCell_same w1 bc 2 _ 48 v1 hf, Kd.R_set hr hf (by decide) 2 v1⟩, ?_⟩
  exact ((Below.refl bc W).grown hg (Nat.le_of_lt (ziY h.f)) (fun k hk => Nat.le_of_succ_le (Kd.R_base h.r k hk))).setCell (Nat.le_refl _) v1
theorem Tb.below {bc : Nat} {v : Value} {y : List Int} (h : Tb bc v y W) (hb : Below W.heap.size W W1) : Tb bc v y W1 := ⟨(hb.block _ (ziY h.f)).trans h.f, Kd.R_below h.r hb⟩
end
theorem u64_add {j : Nat} {u z nv : Int} (hj : j ≤ 7) (hu : 0 ≤ u ∧ u < 256 ^ j) (hz : 0 ≤ z ∧ z < 256) (h : nv = u + z * 256 ^ j) : IntKind.u64.wrap (u + IntKind.u64.wrap (z * 2 ^ (8 * j))) = nv := by
  have hp := pow_le8 hj
  have h1 : z * 256 ^ j ≤ 255 * 256 ^ j := Int.mul_le_mul_of_nonneg_right (by omega) (by omega)
  have h0 : 0 ≤ z * 256 ^ j := Int.mul_nonneg hz.1 (by omega)
  rw [pow8', wraps_u64 _ h0 (by omega), h, wraps_u64 _ (by omega) (by omega)]
theorem sMany_bad {α : Type} {f : Rs → α × Rs} {n : Nat} {s : Rs} (h : s.2 = true) : sMany f n s = ([], s) := by
  cases n with
  | zero => rfl
  | succ n => unfold sMany; rw [if_pos h]
theorem sMany_good {α : Type} {f : Rs → α × Rs} {n : Nat} {s : Rs} (h : s.2 = false) : sMany f (n + 1) s = ((f s).1 :: (sMany f n (f s).2).1, (sMany f n (f s).2).2) := by
  show (if s.2 = true then _ else _) = _
  rw [if_neg (by rw [h]; decide)]
theorem row_exit {α : Type} {f : Rs → α × Rs} {g : Nat} {s s0 : Rs} {xs : List α} (h : sRow f s0 = (xs ++ (sMany f g s).1, (sMany f g s).2)) (hx : g = 0 ∨ s.2 = true) : sRow f s0 = (xs, s) := by
  rw [h]
  rcases hx with rfl | hb
  · simp [sMany]
  · rw [sMany_bad hb]; simp
theorem row_next {α : Type} {f : Rs → α × Rs} {g : Nat} {s s0 : Rs} {xs : List α} (h : sRow f s0 = (xs ++ (sMany f (g + 1) s).1, (sMany f (g + 1) s).2)) (hb : s.2 = false) : sRow f s0 = ((xs ++ [(f s).1]) ++ (sMany f g (f s).2).1, (sMany f g (f s).2).2) := by
  rw [h, sMany_good hb, List.append_assoc]; rfl
theorem str_eq {a b : List Int} (ha : Byt a) (hb : Byt b) : ((strOfNums a).toList == (strOfNums b).toList) = decide (a = b) := by
  rw [Lib.toList_data, Lib.toList_data, strOfNums_data, strOfNums_data]
  have back : ∀ l : List Int, Byt l → (l.map (fun n => UInt8.ofNat n.toNat)).map (fun u => (u.toNat : Int)) = l := by
    intro l hl
    rw [List.map_map]
    conv => rhs; rw [← List.map_id l]
    refine List.map_congr_left fun x hx => ?_
    have := hl x hx
    show ((UInt8.ofNat x.toNat).toNat : Int) = x
    rw [UInt8.toNat_ofNat']
    omega
  by_cases e : a = b
  · subst e; simp
  · rw [decide_eq_false e]
    cases k : (a.map (fun n => UInt8.ofNat n.toNat) == b.map (fun n => UInt8.ofNat n.toNat)) with
    | false => rfl
    | true =>
      have h := eq_of_beq k
      exact absurd (by rw [← back a ha, ← back b hb, h]) e
theorem sMany_byt {α : Type} {f : Rs → α × Rs} {ok : α → Prop} (hk : Keeps f) (h : ∀ s : Rs, Byt s.1 → ok (f s).1) : ∀ n (s : Rs), Byt s.1 → ∀ x ∈ (sMany f n s).1, ok x
  | 0, s, hb, x, hx => by simp [sMany] at hx
  | n + 1, s, hb, x, hx => by
    unfold sMany at hx
    split at hx
    · simp at hx
    · rcases List.mem_cons.1 hx with rfl | hx
      · exact h s hb
      · exact sMany_byt hk h n _ (hk.byt s hb) x hx
theorem sMany_keeps {α : Type} {f : Rs → α × Rs} (hf : Keeps f) : ∀ n, Keeps (sMany f n)
  | 0, s => ⟨0, rfl⟩
  | n + 1, s => by
    unfold sMany
    split
    · exact ⟨0, rfl⟩
    · obtain ⟨k, e⟩ := hf s
      exact keeps_two (k := k) (by rw [← e]; exact sMany_keeps hf n _)
theorem sRow_keeps {α : Type} {f : Rs → α × Rs} (hf : Keeps f) : Keeps (sRow f) := by
  intro s
  obtain ⟨k, e⟩ := sNum_keeps s
  exact keeps_two (k := k) (by rw [← e]; exact sMany_keeps hf _ _)
theorem sConst_keeps : Keeps sConst := by
  intro s
  unfold sConst
  obtain ⟨k, e⟩ := ldByte_keeps s
  split
  · exact keeps_two (k := k) (by rw [← e]; exact sRow_keeps ldByte_keeps _)
  · exact keeps_two (k := k) (by rw [← e]; exact ldEight_keeps _ _ _ _)
theorem sConst_byt (s : Rs) (hb : Byt s.1) : Byt (sConst s).1.f2 := by
  unfold sConst
  split
  · intro x hx
    exact sMany_byt (ok := fun x => 0 ≤ x ∧ x < 256) ldByte_keeps (fun s hs => ⟨(ldByte_range s hs).1, (ldByte_range s hs).2.1⟩) _ _ (sNum_keeps.byt _ (ldByte_keeps.byt s hb)) x hx
  · intro x hx; cases hx
theorem sProg_byt (s : Rs) (hb : Byt s.1) : ∀ c ∈ (sProg s).1.1, Byt c.f2 := fun c hc => sMany_byt (ok := fun c : S48 => Byt c.f2) sConst_keeps sConst_byt _ _ (sNum_keeps.byt s hb) c hc
theorem Byt.app {a b : List Int} (ha : Byt a) (hb : Byt b) : Byt (a ++ b) := fun x hx => (List.mem_append.1 hx).elim (ha x) (hb x)
theorem Byt.flat {α : Type} {f : α → List Int} {l : List α} (h : ∀ x ∈ l, Byt (f x)) : Byt (l.flatMap f) := fun y hy => by
  obtain ⟨x, hx, hxy⟩ := List.mem_flatMap.1 hy
  exact h x hx y hxy
theorem varF_byt : ∀ n (v : Int), Byt (varF n v)
  | 0, v => fun x hx => by simp [varF] at hx
  | n + 1, v => by
    unfold varF
    split
    · intro x hx
      rcases List.mem_cons.1 hx with rfl | hx
      · omega
      · exact varF_byt n _ x hx
    · intro x hx
      simp at hx
      omega
theorem Byt.cons {c : Int} {l : List Int} (h0 : 0 ≤ c ∧ c < 256) (h : Byt l) : Byt (c :: l) := fun x hx => (List.mem_cons.1 hx).elim (fun e => e ▸ h0) (h x)
theorem eightB_byt (n : Int) : Byt (eightB n) := by
  intro x hx
  obtain ⟨i, _, rfl⟩ := List.mem_map.1 hx
  omega
theorem saveL_byt {C : List S48} {P : List S52} (hC : ∀ c ∈ C, Byt c.f2) : Byt (saveL C P) := by
  have h4 : Byt [77, 78, 76, 84] := by
    intro x hx
    simp at hx
    omega
  refine h4.app ((varF_byt _ _).app ((Byt.flat fun c hc => ?_).app ((varF_byt _ _).app (Byt.flat fun f _ => ?_))))
  · unfold constB
    split
    · exact Byt.cons (by omega) ((varF_byt _ _).app (hC c hc))
    · exact Byt.cons (by omega) (eightB_byt _)
  · refine (varF_byt _ _).app ((varF_byt _ _).app ((varF_byt _ _).app ((Byt.flat fun c _ => ?_).app ((varF_byt _ _).app (Byt.flat fun x _ => ?_)))))
    · exact Byt.cons (by unfold tI; split <;> omega) (varF_byt _ _)
    · exact Byt.cons (by omega) ((varF_byt _ _).app (varF_byt _ _))
theorem guard_true {i N : Nat} {x : Bool} (h : true = (decide ((i : Int) < (N : Int)) && !x)) : i < N ∧ x = false := by
  cases x with
  | false => simp at h; exact ⟨by omega, rfl⟩
  | true => simp at h
theorem guard_false {i N g : Nat} {x : Bool} (h : false = (decide ((i : Int) < (N : Int)) && !x)) (hi : i + g = N) : g = 0 ∨ x = true := by
  cases x with
  | false => simp at h; left; omega
  | true => exact .inr rfl
theorem SpIs.bad {w0 W : World} {A : Option Addr} {c : Nat} {l : List Int} {bq : Nat} {s : Rs} (h : SpIs w0 A c l W bq s) : W.cell? ⟨bq, 2, none⟩ = some (.bool s.2) := by
  obtain ⟨_, _, n, h1, _⟩ := h
  exact (zaY h1 2).trans rfl
set_option maxHeartbeats 16000000 in
set_option maxRecDepth 100000 in
theorem spec_load_calls (A : Option Addr) (c : Nat) (l : List Int) (w : World) (hc : Kd.C (Kd.int .u8) w A l.length l) (hn : l.length ≤ c) (hb : Byt l) (hl : l.length ≤ 1048576) :
    Calls Try.prog 21 #[.slice A l.length c] w fun e w' => ∃ u0 u1, e = .returned (.tuple #[.agg #[u0, u1], .int .i64 (sAns l).2]) ∧ Kd.S k48 48 w' w.heap.size (fun _ => True) u0 (sAns l).1.1 ∧ Kd.S k52 52 w' w.heap.size (fun _ => True) u1 (sAns l).1.2 ∧ Below w.heap.size w w' := by
  have HC : Aside0 (SpC w A c l) := ⟨⟨hc, hn, hb, hl⟩⟩
  clear hc hn hb hl
  go_enter Try.func21, Try.ntmps21
  go_upto_region 3 with (fail)
  obtain ⟨W0, hW0⟩ : ∃ W, W = ((w.alloc (.cells #[.slice none 0 0, .slice none 0 0] 31)).alloc (.cells #[.slice A l.length c, .int .i64 4, .bool false] 86)).alloc (.cells #[.slice none 0 0, .slice none 0 0] 31) := ⟨_, rfl⟩
  obtain ⟨br, hbr⟩ : ∃ b, b = w.heap.size := ⟨_, rfl⟩
  obtain ⟨bq, hbq⟩ : ∃ b, b = br + 1 := ⟨_, rfl⟩
  obtain ⟨bo, hbo⟩ : ∃ b, b = br + 1 + 1 := ⟨_, rfl⟩
  obtain ⟨s0, hs0⟩ : ∃ s : Rs, s = (l.drop 4, false) := ⟨_, rfl⟩
  have HG0 : Aside0 (Sg w A c l bq br bo (fun _ => True) s0 [] [] W0) := by
    refine ⟨⟨⟨?_, by omega, 4, ?_, by rw [hs0], by omega⟩, _, _, ⟨?_, ?_, Kd.S_nil _ _ _ _ _, Kd.S_nil _ _ _ _ _, by omega⟩⟩⟩
    · rw [hW0]; exact (((Below.refl _ _).alloc (Nat.le_refl _) _).alloc (by simp) _).alloc (by simp; omega) _
    · rw [hW0, hs0, hbq, hbr, heap_alloc_old _ _ (by simp), show w.heap.size + 1 = (w.alloc (.cells #[.slice none 0 0, .slice none 0 0] 31)).heap.size by simp, heap_alloc_new]; rfl
    · rw [hW0, hbr, heap_alloc_old _ _ (by simp; omega), heap_alloc_old _ _ (by simp), heap_alloc_new]
    · rw [hW0, hbo, hbr, show w.heap.size + 1 + 1 = ((w.alloc (.cells #[.slice none 0 0, .slice none 0 0] 31)).alloc (.cells #[.slice A l.length c, .int .i64 4, .bool false] 86)).heap.size by simp, heap_alloc_new]
  rw [← hW0, ← hbr, ← hbo, ← hbq]
  have HBR := amZ hbr
  have HS0 := amZ hs0
  clear hW0 hbo hbq hbr hs0
  go_wp2_with fail
  refine (l5num_calls w A c l HC.out W0 bq s0 HG0.out.l).mono ?_
  rintro e w1 ⟨rfl, h⟩
  have HG := amZ (HG0.out.to h)
  obtain ⟨N, hN, hN1⟩ := sNum_nat s0 (HG0.out.l.byt HC.out)
  have HNN := amZ hN1
  have HE : Aside0 (sRow sConst s0 = sMany sConst N (sNum s0).2) := ⟨by unfold sRow; rw [hN]; rfl⟩
  rw [hN]
  clear h HG0 hN hN1
  go_wp2_with fail
  go_loopg [7] N (fun g v7 wr => ∃ (i : Nat) (s1 : Rs) (cs : List S48), v7 = .int .i64 (i : Int) ∧ Aside0 (i + g = N) ∧ Aside0 (Sg w A c l bq br bo (fun _ => True) s1 cs [] wr) ∧ Aside0 (cs.length = i) ∧ Aside0 (sRow sConst s0 = (cs ++ (sMany sConst g s1).1, (sMany sConst g s1).2)))
  case atStart => exact ⟨0, _, [], rfl, ⟨by omega⟩, HG, ⟨rfl⟩, HE⟩
  case round =>
    clear HG HE
    obtain ⟨i, s1, cs, rfl, hi, hG, hL, hE⟩ := hrel
    have b2 := hG.out.l.bad
    obtain ⟨b, hb⟩ : ∃ b, b = (decide ((i : Int) < (N : Int)) && !s1.2) := ⟨_, rfl⟩
    have HBV := amZ hb
    clear hb
    go_upto_region 5 with (fail)
    go_cut [39] (fun sx wx => sx = .bool b ∧ wr = wx)
    case first =>
     by_cases hlt : i < N
     · have d1 : decide ((i : Int) < (N : Int)) = true := decide_eq_true (by omega)
       go_wp2_with fail
       go_meet
       exact ⟨by rw [HBV.out, d1, Bool.true_and], rfl⟩
     · have d1 : decide ((i : Int) < (N : Int)) = false := decide_eq_false (by omega)
       go_wp2_with fail
       go_meet
       exact ⟨by rw [HBV.out, d1, Bool.false_and], rfl⟩
    case rest =>
    obtain ⟨rfl, rfl⟩ := hcut
    cases b with
    | true =>
      obtain ⟨hlt, hbad⟩ := guard_true HBV.out
      obtain ⟨gg, hgg⟩ : ∃ gg, gk = gg + 1 := ⟨gk - 1, by have := hi.out; omega⟩
      subst hgg
      have HE := amZ (row_next hE.out hbad)
      have HLT := amZ hlt
      clear hE hbad
      go_wp2_with fail
      refine (l5byte_calls w A c l HC.out wr bq s1 hG.out.l).mono ?_
      rintro e w1 ⟨rfl, h⟩
      have HG := amZ (hG.out.to h)
      obtain ⟨x, hxx⟩ : ∃ x, x = (ldByte s1).1 := ⟨_, rfl⟩
      obtain ⟨s2, hs2⟩ : ∃ s, s = (ldByte s1).2 := ⟨_, rfl⟩
      rw [← hs2] at HG
      rw [← hxx]
      have HS2 := amZ (And.intro hxx hs2)
      clear h hG hxx hs2 b2
      by_cases k1 : x = 1
      · have HET : Aside0 (sConst s1 = (⟨true, 0, (sRow ldByte s2).1⟩, (sRow ldByte s2).2)) := ⟨by unfold sConst; rw [← HS2.out.1, ← HS2.out.2, if_pos k1]⟩
        go_upto_region 9 with (fail)
        obtain ⟨bc, hbc⟩ : ∃ b, b = w1.heap.size := ⟨_, rfl⟩
        obtain ⟨Wc, hWc⟩ : ∃ W, W = w1.alloc (.cells #[.bool true, .int .i64 0, .slice none 0 0] 48) := ⟨_, rfl⟩
        have hbw : Below w1.heap.size w1 Wc := by rw [hWc]; exact (Below.refl _ _).alloc (Nat.le_refl _) _
        have HGc : Aside0 (Sg w A c l bq br bo (fun k => k < bc) s2 cs [] Wc) := ⟨by rw [hbc]; exact HG.out.bound.below hbw⟩
        have HTc : Aside0 (Tb bc (.slice none 0 0) [] Wc) := ⟨⟨by rw [hWc, hbc, heap_alloc_new], Kd.R_nil _ _ _ _ _⟩⟩
        have HLB : Aside0 (bq < bc ∧ bo < bc ∧ w.heap.size ≤ bc) := ⟨by rw [hbc]; exact HG.out.lts⟩
        rw [← hWc, ← hbc]
        clear hWc hbc hbw HG
        go_wp2_with fail
        refine (l5num_calls w A c l HC.out Wc bq s2 HGc.out.l).mono ?_
        rintro e w2 ⟨rfl, h⟩
        have HG := amZ (HGc.out.to h)
        have HT := amZ (HTc.out.to (h.one HGc.out.l))
        obtain ⟨M, hM, hM1⟩ := sNum_nat s2 (HGc.out.l.byt HC.out)
        have HMM := amZ hM1
        have HEY : Aside0 (sRow ldByte s2 = sMany ldByte M (sNum s2).2) := ⟨by unfold sRow; rw [hM]; rfl⟩
        rw [hM]
        clear h HGc HTc hM hM1
        go_wp2_with fail
        go_loopg [10] M (fun g v10 wr => ∃ (j : Nat) (s3 : Rs) (y : List Int) (v : Value), v10 = .int .i64 (j : Int) ∧ Aside0 (j + g = M) ∧ Aside0 (Sg w A c l bq br bo (fun k => k < bc) s3 cs [] wr) ∧ Aside0 (Tb bc v y wr) ∧ Aside0 (y.length = j) ∧ Aside0 (sRow ldByte s2 = (y ++ (sMany ldByte g s3).1, (sMany ldByte g s3).2)))
        case atStart => exact ⟨0, _, [], _, rfl, ⟨by omega⟩, HG, HT, ⟨rfl⟩, HEY⟩
        case round =>
          clear HG HT HEY
          obtain ⟨j, s3, y, v, rfl, hj, hG, hT, hYL, hEY⟩ := hrel
          have b2 := hG.out.l.bad
          obtain ⟨b, hb⟩ : ∃ b, b = (decide ((j : Int) < (M : Int)) && !s3.2) := ⟨_, rfl⟩
          have HBV := amZ hb
          clear hb
          go_upto_region 11 with (fail)
          go_cut [57] (fun sx wx => sx = .bool b ∧ wr = wx)
          case first =>
           by_cases hlt : j < M
           · have d1 : decide ((j : Int) < (M : Int)) = true := decide_eq_true (by omega)
             go_wp2_with fail
             go_meet
             exact ⟨by rw [HBV.out, d1, Bool.true_and], rfl⟩
           · have d1 : decide ((j : Int) < (M : Int)) = false := decide_eq_false (by omega)
             go_wp2_with fail
             go_meet
             exact ⟨by rw [HBV.out, d1, Bool.false_and], rfl⟩
          case rest =>
          obtain ⟨rfl, rfl⟩ := hcut
          cases b with
          | true =>
            obtain ⟨hlt2, hbad⟩ := guard_true HBV.out
            obtain ⟨g2, hg2⟩ : ∃ g2, gk = g2 + 1 := ⟨gk - 1, by have := hj.out; omega⟩
            subst hg2
            have HEY := amZ (row_next hEY.out hbad)
            have HLT2 := amZ hlt2
            clear hEY hbad
            go_wp2_with fail
            refine (l5byte_calls w A c l HC.out wr bq s3 hG.out.l).mono ?_
            rintro e w3 ⟨rfl, h⟩
            have HG := amZ (hG.out.to h)
            have HT := amZ (hT.out.to (h.one hG.out.l))
            obtain ⟨hc0, hc1, _⟩ := ldByte_range s3 (hG.out.l.byt HC.out)
            obtain ⟨z, hz⟩ : ∃ z, z = (ldByte s3).1 := ⟨_, rfl⟩
            rw [← hz] at hc0 hc1 HEY ⊢
            have hzz : z % 256 = z := Int.emod_eq_of_lt hc0 hc1
            obtain ⟨Av, cv, ev⟩ := Kd.R_slice HT.out.r
            subst ev
            have p2 : w3.cell? ⟨bc, 2, none⟩ = some (.slice Av y.length cv) := (zaY HT.out.f 2).trans rfl
            have HZ := amZ hz
            have HYB : Aside0 (y.length + [z].length ≤ 1099511627776) := ⟨by have := hYL.out; have := HMM.out; simp; omega⟩
            have HC1 := amZ (one_C w3 z)
            have HR1 := amZ (Kd.R_below HT.out.r ((Below.refl w3.heap.size w3).alloc (Nat.le_refl _) (.cells #[.int .u8 z] 5)))
            have HT1 := amZ (HT.out.below ((Below.refl w3.heap.size w3).alloc (Nat.le_refl _) (.cells #[.int .u8 z] 5)))
            have HG1 := amZ (HG.out.below ((Below.refl w3.heap.size w3).alloc (Nat.le_refl _) (.cells #[.int .u8 z] 5)))
            clear h hG hT hz b2
            go_wp2_with (at_builtin; refine wp_append_bytes rfl (.tmp 63) (.tmp 66) rfl (bc + 1) _ _ [z] (some ⟨w3.heap.size, 0, none⟩) 1 rfl rfl HR1.out (ziY HT1.out.f) HC1.out HYB.out ?_; intro v4 w4 hr4 hg4; obtain ⟨A4, c4, e4⟩ := Kd.R_slice hr4; rw [List.length_append, List.length_singleton] at e4; subst e4; have hp4 := HT1.out.put hr4 hg4; have HT4 := amZ hp4.2.1; have HG4 := amZ (HG1.out.belowN hp4.2.2 HLB.out.1 HLB.out.2.1 HLB.out.2.2); have p4 : w4.cell? ⟨bc, 2, none⟩ = some (.slice Av y.length cv) := (zaY hp4.1 2).trans rfl; have f4 := zbY hp4.1 2; clear hp4 hr4 hg4)
            go_roundg g2
            case measure => omega
            case rel => exact ⟨j + 1, _, y ++ [z], _, i64_next HLT2.out (by have := HMM.out; omega), ⟨by have := hj.out; omega⟩, HG4, HT4, ⟨by rw [List.length_append, hYL.out]; rfl⟩, HEY⟩
          | false =>
            have HEX := amZ (row_exit hEY.out (guard_false HBV.out hj.out))
            have HET2 : Aside0 (sConst s1 = (⟨true, 0, y⟩, s3)) := ⟨by rw [HET.out, HEX.out]⟩
            have HE2 : Aside0 (sRow sConst s0 = ((cs ++ [⟨true, 0, y⟩]) ++ (sMany sConst gg s3).1, (sMany sConst gg s3).2)) := ⟨by rw [HE.out, HET2.out]⟩
            obtain ⟨u0, u1, ob⟩ := hG.out.o
            have p0 : wr.cell? ⟨bo, 0, none⟩ = some u0 := (zaY ob.o 0).trans rfl
            have f0 := zbY ob.o 0
            obtain ⟨Av, cv, ev⟩ := Kd.R_slice hT.out.r
            subst ev
            have t0 : wr.cell? ⟨bc, 0, none⟩ = some (.bool true) := (zaY hT.out.f 0).trans rfl
            have t1 : wr.cell? ⟨bc, 1, none⟩ = some (.int .i64 0) := (zaY hT.out.f 1).trans rfl
            have t2 : wr.cell? ⟨bc, 2, none⟩ = some (.slice Av y.length cv) := (zaY hT.out.f 2).trans rfl
            have HOB := amZ ob
            have HCL : Aside0 (cs.length ≤ 2097152) := ⟨by have := hL.out; have := HNN.out; omega⟩
            have HBC : Aside0 (bc + 1 ≤ wr.heap.size) := ⟨ziY hT.out.f⟩
            have HSP := amZ hG.out.l
            have HTR := amZ hT.out.r
            clear ob hEY hG hT hj hYL b2 HBV
            go_wp2_with (at_builtin; refine Bx.const_list (N := bc + 1) (HOB.out.mono (fun k hk => Nat.lt_succ_of_lt hk)) HSP.out.b (Nat.le_succ_of_le HLB.out.2.2) HBC.out ⟨true, 0, y⟩ _ HTR.out HCL.out rfl (.tmp 70) (.tmp 72) rfl rfl rfl ?_; intro A4 c4 w4 hp4; have HPG4 := amZ (Sg.put0 HSP.out HOB.out.o hp4); have p4 : w4.cell? ⟨bo, 0, none⟩ = some u0 := (zaY hp4.1 0).trans rfl; have f4 := zbY hp4.1 0; clear hp4)
            go_roundg gg
            case measure => omega
            case rel => exact ⟨i + 1, s3, _, i64_next HLT.out (by have := HNN.out; omega), ⟨by have := hi.out; omega⟩, HPG4, ⟨by rw [List.length_append, hL.out]; rfl⟩, HE2⟩
      · have HET : Aside0 (sConst s1 = (⟨false, IntKind.i64.wrap (ldEight 8 1 0 s2).1, []⟩, (ldEight 8 1 0 s2).2)) := ⟨by unfold sConst; rw [← HS2.out.1, ← HS2.out.2, if_neg k1]⟩
        have hx1 : (x == 1) = false := by simpa using k1
        go_wp2_with fail
        go_loopg [12, 13] 8 (fun g v12 v13 wr => ∃ (j : Nat) (u : Int) (s3 : Rs), v12 = .int .u64 u ∧ v13 = .int .i64 (j : Int) ∧ Aside0 (j + g = 8) ∧ Aside0 (0 ≤ u ∧ u < 256 ^ j) ∧ Aside0 (Sg w A c l bq br bo (fun _ => True) s3 cs [] wr) ∧ Aside0 (ldEight 8 1 0 s2 = ldEight g (256 ^ j) u s3))
        case atStart => exact ⟨0, 0, _, rfl, rfl, ⟨rfl⟩, ⟨by simp⟩, HG, ⟨rfl⟩⟩
        case round =>
          clear HG
          obtain ⟨j, u, s3, rfl, rfl, hj, hu, hG, hE8⟩ := hrel
          by_cases h8 : j < 8
          · have d8 : decide ((j : Int) < 8) = true := decide_eq_true (by omega)
            have HJ := amZ h8
            go_wp2_with fail
            refine (l5byte_calls w A c l HC.out wr bq s3 hG.out.l).mono ?_
            rintro e w2 ⟨rfl, h⟩
            have HG := amZ (hG.out.to h)
            obtain ⟨hc0, hc1, _⟩ := ldByte_range s3 (hG.out.l.byt HC.out)
            obtain ⟨z, hz⟩ : ∃ z, z = (ldByte s3).1 := ⟨_, rfl⟩
            rw [← hz] at hc0 hc1 ⊢
            obtain ⟨nv, hnv⟩ : ∃ x, x = u + z * 256 ^ j := ⟨_, rfl⟩
            have HV := amZ (eight_step hu.out ⟨hc0, hc1⟩ hnv)
            obtain ⟨g8, hg8⟩ : ∃ g8, gk = g8 + 1 := ⟨gk - 1, by have := hj.out; omega⟩
            have HE8 : Aside0 (ldEight 8 1 0 s2 = ldEight g8 (256 ^ (j + 1)) nv (ldByte s3).2) := ⟨by rw [hE8.out, hg8, Int.pow_succ, hnv, hz]; rfl⟩
            have HG8 := amZ hg8
            have HZR := amZ (And.intro hc0 hc1)
            have HNV := amZ hnv
            clear h hz hnv hg8
            go_wp2_with fail
            go_roundg g8
            case measure => have := HG8.out; omega
            case rel => exact ⟨j + 1, nv, (ldByte s3).2, congrArg (Value.int .u64) (u64_add (by have := HJ.out; omega) hu.out HZR.out HNV.out), rfl, ⟨by have := hj.out; have := HG8.out; omega⟩, HV, HG, HE8⟩
          · have d8 : decide ((j : Int) < 8) = false := decide_eq_false (by omega)
            have hg0 : gk = 0 := by have := hj.out; omega
            subst hg0
            obtain ⟨u0, u1, ob⟩ := hG.out.o
            have p0 : wr.cell? ⟨bo, 0, none⟩ = some u0 := (zaY ob.o 0).trans rfl
            have f0 := zbY ob.o 0
            have HOB := amZ ob.bound
            have HSP := amZ hG.out.l
            have HCL : Aside0 (cs.length ≤ 2097152) := ⟨by have := hL.out; have := HNN.out; omega⟩
            obtain ⟨m, hm⟩ : ∃ m, m = wrap64 u := ⟨_, rfl⟩
            have hmm : wrap64 u = m := hm.symm
            have HET2 : Aside0 (sConst s1 = (⟨false, m, []⟩, s3)) := ⟨by rw [HET.out, hE8.out, hm, w64]; rfl⟩
            have HE2 : Aside0 (sRow sConst s0 = ((cs ++ [⟨false, m, []⟩]) ++ (sMany sConst gg s3).1, (sMany sConst gg s3).2)) := ⟨by rw [HE.out, HET2.out]⟩
            clear hm ob h8 hG hE8 hu
            go_wp2_with (at_builtin; refine Bx.const_list HOB.out HSP.out.b HSP.out.b.size (Nat.le_refl _) ⟨false, m, []⟩ (.slice none 0 0) (Kd.R_nil _ _ _ _ _) HCL.out rfl (.tmp 90) (.tmp 94) rfl rfl rfl ?_; intro A4 c4 w4 hp4; have HPG4 := amZ (Sg.put0 HSP.out HOB.out.o hp4); have p4 : w4.cell? ⟨bo, 0, none⟩ = some u0 := (zaY hp4.1 0).trans rfl; have f4 := zbY hp4.1 0; clear hp4)
            go_roundg gg
            case measure => omega
            case rel => exact ⟨i + 1, s3, _, i64_next HLT.out (by have := HNN.out; omega), ⟨by have := hi.out; omega⟩, HPG4, ⟨by rw [List.length_append, hL.out]; rfl⟩, HE2⟩
    | false =>
      have HRC := amZ (row_exit hE.out (guard_false HBV.out hi.out))
      have HG := hG
      clear hE hi hL hG b2 HBV
      go_wp2_with fail
      refine (l5num_calls w A c l HC.out wr bq s1 HG.out.l).mono ?_
      rintro e w1 ⟨rfl, h⟩
      have HGn := amZ (HG.out.to h)
      obtain ⟨M, hM, hM1⟩ := sNum_nat s1 (HG.out.l.byt HC.out)
      have HMM := amZ hM1
      have HE : Aside0 (sRow sProto s1 = sMany sProto M (sNum s1).2) := ⟨by unfold sRow; rw [hM]; rfl⟩
      rw [hM]
      clear h HG hM hM1
      go_wp2_with fail
      go_loopg [15] M (fun g v15 wr => ∃ (i : Nat) (s2 : Rs) (ps : List S52), v15 = .int .i64 (i : Int) ∧ Aside0 (i + g = M) ∧ Aside0 (Sg w A c l bq br bo (fun _ => True) s2 cs ps wr) ∧ Aside0 (ps.length = i) ∧ Aside0 (sRow sProto s1 = (ps ++ (sMany sProto g s2).1, (sMany sProto g s2).2)))
      case atStart => exact ⟨0, _, [], rfl, ⟨by omega⟩, HGn, ⟨rfl⟩, HE⟩
      case round =>
        clear HGn HE
        obtain ⟨i, s2, ps, rfl, hi, hG, hL, hE⟩ := hrel
        have b2 := hG.out.l.bad
        obtain ⟨b, hb⟩ : ∃ b, b = (decide ((i : Int) < (M : Int)) && !s2.2) := ⟨_, rfl⟩
        have HBV := amZ hb
        clear hb
        go_upto_region 25 with (fail)
        go_cut [108] (fun sx wx => sx = .bool b ∧ wr = wx)
        case first =>
         by_cases hlt : i < M
         · have d1 : decide ((i : Int) < (M : Int)) = true := decide_eq_true (by omega)
           go_wp2_with fail
           go_meet
           exact ⟨by rw [HBV.out, d1, Bool.true_and], rfl⟩
         · have d1 : decide ((i : Int) < (M : Int)) = false := decide_eq_false (by omega)
           go_wp2_with fail
           go_meet
           exact ⟨by rw [HBV.out, d1, Bool.false_and], rfl⟩
        case rest =>
        obtain ⟨rfl, rfl⟩ := hcut
        cases b with
        | true =>
          obtain ⟨hlt, hbad⟩ := guard_true HBV.out
          obtain ⟨gg, hgg⟩ : ∃ gg, gk = gg + 1 := ⟨gk - 1, by have := hi.out; omega⟩
          subst hgg
          have HE := amZ (row_next hE.out hbad)
          have HLT := amZ hlt
          clear hE hbad b2
          go_upto_region 28 with (fail)
          obtain ⟨bf, hbf⟩ : ∃ b, b = wr.heap.size := ⟨_, rfl⟩
          obtain ⟨W5, hW5⟩ : ∃ W, W = wr.alloc (.cells #[.int .i64 0, .int .i64 0, .slice none 0 0, .slice none 0 0] 52) := ⟨_, rfl⟩
          have hb5 : Below wr.heap.size wr W5 := by rw [hW5]; exact (Below.refl _ _).alloc (Nat.le_refl _) _
          have HG5 : Aside0 (Sg w A c l bq br bo (fun k => k < bf) s2 cs ps W5) := ⟨by rw [hbf]; exact hG.out.bound.below hb5⟩
          have HF5 : Aside0 (Fb bf 0 0 (.slice none 0 0) (.slice none 0 0) [] [] W5) := ⟨⟨by rw [hW5, hbf, heap_alloc_new], Kd.R_nil _ _ _ _ _, Kd.R_nil _ _ _ _ _⟩⟩
          have HLB : Aside0 (bq < bf ∧ bo < bf ∧ w.heap.size ≤ bf) := ⟨by rw [hbf]; exact hG.out.lts⟩
          rw [← hW5, ← hbf]
          clear hW5 hb5 hbf hG
          go_wp2_with fail
          refine (l5num_calls w A c l HC.out W5 bq s2 HG5.out.l).mono ?_
          rintro e w2 ⟨rfl, h⟩
          have HG6 := amZ (HG5.out.to h)
          have HF6 := amZ (HF5.out.to' (h.one HG5.out.l))
          obtain ⟨n0, hn0⟩ : ∃ n, n = (sNum s2).1 := ⟨_, rfl⟩
          obtain ⟨s3, hs3⟩ : ∃ s, s = (sNum s2).2 := ⟨_, rfl⟩
          rw [← hs3] at HG6
          rw [← hn0]
          have HN0 := amZ (And.intro hn0 hs3)
          have p0 : w2.cell? ⟨bf, 0, none⟩ = some (.int .i64 0) := (zaY HF6.out.f 0).trans rfl
          have f0 := zbY HF6.out.f 0
          clear h HG5 HF5 hn0 hs3
          go_upto_region 29 with (fail)
          obtain ⟨W7, hW7⟩ : ∃ W, W = w2.setCell ⟨bf, 0, none⟩ (.int .i64 n0) := ⟨_, rfl⟩
          have HF7 : Aside0 (Fb bf n0 0 (.slice none 0 0) (.slice none 0 0) [] [] W7) := ⟨by rw [hW7]; exact HF6.out.set0 n0⟩
          have HG7 : Aside0 (Sg w A c l bq br bo (fun k => k < bf) s3 cs ps W7) := ⟨by rw [hW7]; exact HG6.out.belowN ((Below.refl bf w2).setCell (Nat.le_refl _) _) HLB.out.1 HLB.out.2.1 HLB.out.2.2⟩
          rw [← hW7]
          clear hW7 p0 f0 HF6 HG6
          go_wp2_with fail
          refine (l5num_calls w A c l HC.out W7 bq s3 HG7.out.l).mono ?_
          rintro e w3 ⟨rfl, h⟩
          have HG8 := amZ (HG7.out.to h)
          have HF8 := amZ (HF7.out.to' (h.one HG7.out.l))
          obtain ⟨n1, hn1⟩ : ∃ n, n = (sNum s3).1 := ⟨_, rfl⟩
          obtain ⟨s4, hs4⟩ : ∃ s, s = (sNum s3).2 := ⟨_, rfl⟩
          rw [← hs4] at HG8
          rw [← hn1]
          have HPR : Aside0 (sProto s2 = (⟨n0, n1, (sRow sCap s4).1, (sRow sIns (sRow sCap s4).2).1⟩, (sRow sIns (sRow sCap s4).2).2)) := ⟨by rw [hn1, hs4, HN0.out.1, HN0.out.2]; rfl⟩
          have p0 : w3.cell? ⟨bf, 1, none⟩ = some (.int .i64 0) := (zaY HF8.out.f 1).trans rfl
          have f0 := zbY HF8.out.f 1
          clear h HG7 HF7 hn1 hs4
          go_upto_region 30 with (fail)
          obtain ⟨W9, hW9⟩ : ∃ W, W = w3.setCell ⟨bf, 1, none⟩ (.int .i64 n1) := ⟨_, rfl⟩
          have HF9 : Aside0 (Fb bf n0 n1 (.slice none 0 0) (.slice none 0 0) [] [] W9) := ⟨by rw [hW9]; exact HF8.out.set1 n1⟩
          have HG9 : Aside0 (Sg w A c l bq br bo (fun k => k < bf) s4 cs ps W9) := ⟨by rw [hW9]; exact HG8.out.belowN ((Below.refl bf w3).setCell (Nat.le_refl _) _) HLB.out.1 HLB.out.2.1 HLB.out.2.2⟩
          rw [← hW9]
          clear hW9 p0 f0 HF8 HG8
          go_wp2_with fail
          refine (l5num_calls w A c l HC.out W9 bq s4 HG9.out.l).mono ?_
          rintro e w4 ⟨rfl, h⟩
          have HG := amZ (HG9.out.to h)
          have HF := amZ (HF9.out.to' (h.one HG9.out.l))
          obtain ⟨K, hK, hK1⟩ := sNum_nat s4 (HG9.out.l.byt HC.out)
          have HKK := amZ hK1
          have HEC : Aside0 (sRow sCap s4 = sMany sCap K (sNum s4).2) := ⟨by unfold sRow; rw [hK]; rfl⟩
          rw [hK]
          clear h HG9 HF9 hK hK1
          go_wp2_with fail
          go_loopg [18] K (fun g v18 wr => ∃ (i : Nat) (s6 : Rs) (ys : List S54) (v2 : Value), v18 = .int .i64 (i : Int) ∧ Aside0 (i + g = K) ∧ Aside0 (Sg w A c l bq br bo (fun k => k < bf) s6 cs ps wr) ∧ Aside0 (Fb bf n0 n1 v2 (.slice none 0 0) ys [] wr) ∧ Aside0 (ys.length = i) ∧ Aside0 (sRow sCap s4 = (ys ++ (sMany sCap g s6).1, (sMany sCap g s6).2)))
          case atStart => exact ⟨0, _, [], _, rfl, ⟨by omega⟩, HG, HF, ⟨rfl⟩, HEC⟩
          case round =>
            clear HG HF HEC
            obtain ⟨i1, s6, ys, v2, rfl, hi1, hG, hF, hYL, hEC⟩ := hrel
            have b2 := hG.out.l.bad
            obtain ⟨b, hb⟩ : ∃ b, b = (decide ((i1 : Int) < (K : Int)) && !s6.2) := ⟨_, rfl⟩
            have HBV := amZ hb
            clear hb
            go_upto_region 32 with (fail)
            go_cut [128] (fun sx wx => sx = .bool b ∧ wr = wx)
            case first =>
             by_cases hlt : i1 < K
             · have d1 : decide ((i1 : Int) < (K : Int)) = true := decide_eq_true (by omega)
               go_wp2_with fail
               go_meet
               exact ⟨by rw [HBV.out, d1, Bool.true_and], rfl⟩
             · have d1 : decide ((i1 : Int) < (K : Int)) = false := decide_eq_false (by omega)
               go_wp2_with fail
               go_meet
               exact ⟨by rw [HBV.out, d1, Bool.false_and], rfl⟩
            case rest =>
            obtain ⟨rfl, rfl⟩ := hcut
            cases b with
            | true =>
              obtain ⟨hlt1, hbad⟩ := guard_true HBV.out
              obtain ⟨g1, hg1⟩ : ∃ g1, gk = g1 + 1 := ⟨gk - 1, by have := hi1.out; omega⟩
              subst hg1
              have HEC := amZ (row_next hEC.out hbad)
              have HLT1 := amZ hlt1
              clear hEC hbad b2
              go_wp2_with fail
              refine (l5byte_calls w A c l HC.out wr bq s6 hG.out.l).mono ?_
              rintro e w1 ⟨rfl, h⟩
              have HG := amZ (hG.out.to h)
              have HF := amZ (hF.out.to' (h.one hG.out.l))
              obtain ⟨x, hxx⟩ : ∃ x, x = (ldByte s6).1 := ⟨_, rfl⟩
              obtain ⟨s7, hs7⟩ : ∃ s, s = (ldByte s6).2 := ⟨_, rfl⟩
              rw [← hs7] at HG
              rw [← hxx]
              have HX := amZ (And.intro hxx hs7)
              clear h hG hF hxx hs7
              go_wp2_with fail
              refine (l5num_calls w A c l HC.out w1 bq s7 HG.out.l).mono ?_
              rintro e w2 ⟨rfl, h⟩
              have HG2 := amZ (HG.out.to h)
              have HF2 := amZ (HF.out.to' (h.one HG.out.l))
              obtain ⟨a, ha⟩ : ∃ a, a = (sNum s7).1 := ⟨_, rfl⟩
              rw [← ha]
              have HCP : Aside0 (sCap s6 = (⟨x == 1, a⟩, (sNum s7).2)) := ⟨by rw [ha, HX.out.1, HX.out.2]; rfl⟩
              have HE2 : Aside0 (sRow sCap s4 = ((ys ++ [⟨x == 1, a⟩]) ++ (sMany sCap g1 (sNum s7).2).1, (sMany sCap g1 (sNum s7).2).2)) := ⟨by rw [HEC.out, HCP.out]⟩
              have HYB : Aside0 (ys.length ≤ 2097152) := ⟨by have := hYL.out; have := HKK.out; omega⟩
              have p2 : w2.cell? ⟨bf, 2, none⟩ = some v2 := (zaY HF2.out.f 2).trans rfl
              clear h HG HF ha
              go_wp2_with (at_builtin; refine Fb.cap_list HF2.out ⟨x == 1, a⟩ HYB.out rfl (.tmp 136) (.tmp 141) rfl rfl rfl ?_; intro A4 c4 w4 hp4; have HF4 := amZ hp4.2.1; have HG4 := amZ (HG2.out.belowN hp4.2.2 HLB.out.1 HLB.out.2.1 HLB.out.2.2); have p4 : w4.cell? ⟨bf, 2, none⟩ = some v2 := (zaY hp4.1 2).trans rfl; have f4 := zbY hp4.1 2; clear hp4)
              go_roundg g1
              case measure => omega
              case rel => exact ⟨i1 + 1, _, _, _, i64_next HLT1.out (by have := HKK.out; omega), ⟨by have := hi1.out; omega⟩, HG4, HF4, ⟨by rw [List.length_append, hYL.out]; rfl⟩, HE2⟩
            | false =>
              have HRC2 := amZ (row_exit hEC.out (guard_false HBV.out hi1.out))
              clear hEC hi1 hYL HBV b2
              go_wp2_with fail
              refine (l5num_calls w A c l HC.out wr bq s6 hG.out.l).mono ?_
              rintro e w1 ⟨rfl, h⟩
              have HG := amZ (hG.out.to h)
              have HF := amZ (hF.out.to' (h.one hG.out.l))
              obtain ⟨L, hLl, hL1⟩ := sNum_nat s6 (hG.out.l.byt HC.out)
              have HLL := amZ hL1
              have HEI : Aside0 (sRow sIns s6 = sMany sIns L (sNum s6).2) := ⟨by unfold sRow; rw [hLl]; rfl⟩
              rw [hLl]
              clear h hG hF hLl hL1
              go_wp2_with fail
              go_loopg [21] L (fun g v21 wr => ∃ (i : Nat) (s7 : Rs) (zs : List S57) (v3 : Value), v21 = .int .i64 (i : Int) ∧ Aside0 (i + g = L) ∧ Aside0 (Sg w A c l bq br bo (fun k => k < bf) s7 cs ps wr) ∧ Aside0 (Fb bf n0 n1 v2 v3 ys zs wr) ∧ Aside0 (zs.length = i) ∧ Aside0 (sRow sIns s6 = (zs ++ (sMany sIns g s7).1, (sMany sIns g s7).2)))
              case atStart => exact ⟨0, _, [], _, rfl, ⟨by omega⟩, HG, HF, ⟨rfl⟩, HEI⟩
              case round =>
                clear HG HF HEI
                obtain ⟨i2, s7, zs, v3, rfl, hi2, hG, hF, hZL, hEI⟩ := hrel
                have b2 := hG.out.l.bad
                obtain ⟨b, hb⟩ : ∃ b, b = (decide ((i2 : Int) < (L : Int)) && !s7.2) := ⟨_, rfl⟩
                have HBV := amZ hb
                clear hb
                go_upto_region 39 with (fail)
                go_cut [155] (fun sx wx => sx = .bool b ∧ wr = wx)
                case first =>
                 by_cases hlt : i2 < L
                 · have d1 : decide ((i2 : Int) < (L : Int)) = true := decide_eq_true (by omega)
                   go_wp2_with fail
                   go_meet
                   exact ⟨by rw [HBV.out, d1, Bool.true_and], rfl⟩
                 · have d1 : decide ((i2 : Int) < (L : Int)) = false := decide_eq_false (by omega)
                   go_wp2_with fail
                   go_meet
                   exact ⟨by rw [HBV.out, d1, Bool.false_and], rfl⟩
                case rest =>
                obtain ⟨rfl, rfl⟩ := hcut
                cases b with
                | true =>
                  obtain ⟨hlt2, hbad⟩ := guard_true HBV.out
                  obtain ⟨g2, hg2⟩ : ∃ g2, gk = g2 + 1 := ⟨gk - 1, by have := hi2.out; omega⟩
                  subst hg2
                  have HEI := amZ (row_next hEI.out hbad)
                  have HLT2 := amZ hlt2
                  clear hEI hbad b2
                  go_wp2_with fail
                  refine (l5byte_calls w A c l HC.out wr bq s7 hG.out.l).mono ?_
                  rintro e w1 ⟨rfl, h⟩
                  have HG := amZ (hG.out.to h)
                  have HF := amZ (hF.out.to' (h.one hG.out.l))
                  obtain ⟨x, hxx⟩ : ∃ x, x = (ldByte s7).1 := ⟨_, rfl⟩
                  obtain ⟨s8, hs8⟩ : ∃ s, s = (ldByte s7).2 := ⟨_, rfl⟩
                  rw [← hs8] at HG
                  rw [← hxx]
                  have HX := amZ (And.intro hxx hs8)
                  clear h hG hF hxx hs8
                  go_wp2_with fail
                  refine (l5num_calls w A c l HC.out w1 bq s8 HG.out.l).mono ?_
                  rintro e w2 ⟨rfl, h⟩
                  have HG2 := amZ (HG.out.to h)
                  have HF2 := amZ (HF.out.to' (h.one HG.out.l))
                  obtain ⟨a, ha⟩ : ∃ a, a = (sNum s8).1 := ⟨_, rfl⟩
                  obtain ⟨s9, hs9⟩ : ∃ s, s = (sNum s8).2 := ⟨_, rfl⟩
                  rw [← hs9] at HG2
                  rw [← ha]
                  have HA := amZ (And.intro ha hs9)
                  clear h HG HF ha hs9
                  go_wp2_with fail
                  refine (l5num_calls w A c l HC.out w2 bq s9 HG2.out.l).mono ?_
                  rintro e w3 ⟨rfl, h⟩
                  have HG3 := amZ (HG2.out.to h)
                  have HF3 := amZ (HF2.out.to' (h.one HG2.out.l))
                  obtain ⟨d, hd⟩ : ∃ a, a = (sNum s9).1 := ⟨_, rfl⟩
                  rw [← hd]
                  have HIN : Aside0 (sIns s7 = (⟨x, a, d⟩, (sNum s9).2)) := ⟨by rw [hd, HA.out.1, HA.out.2, HX.out.1, HX.out.2]; rfl⟩
                  have HE2 : Aside0 (sRow sIns s6 = ((zs ++ [⟨x, a, d⟩]) ++ (sMany sIns g2 (sNum s9).2).1, (sMany sIns g2 (sNum s9).2).2)) := ⟨by rw [HEI.out, HIN.out]⟩
                  have HZB : Aside0 (zs.length ≤ 2097152) := ⟨by have := hZL.out; have := HLL.out; omega⟩
                  have p2 : w3.cell? ⟨bf, 3, none⟩ = some v3 := (zaY HF3.out.f 3).trans rfl
                  clear h HG2 HF2 hd
                  go_wp2_with (at_builtin; refine Fb.ins_list HF3.out ⟨x, a, d⟩ HZB.out rfl (.tmp 165) (.tmp 170) rfl rfl rfl ?_; intro A4 c4 w4 hp4; have HF4 := amZ hp4.2.1; have HG4 := amZ (HG3.out.belowN hp4.2.2 HLB.out.1 HLB.out.2.1 HLB.out.2.2); have p4 : w4.cell? ⟨bf, 3, none⟩ = some v3 := (zaY hp4.1 3).trans rfl; have f4 := zbY hp4.1 3; clear hp4)
                  go_roundg g2
                  case measure => omega
                  case rel => exact ⟨i2 + 1, _, _, _, i64_next HLT2.out (by have := HLL.out; omega), ⟨by have := hi2.out; omega⟩, HG4, HF4, ⟨by rw [List.length_append, hZL.out]; rfl⟩, HE2⟩
                | false =>
                  have HRI := amZ (row_exit hEI.out (guard_false HBV.out hi2.out))
                  have HPR2 : Aside0 (sProto s2 = (⟨n0, n1, ys, zs⟩, s7)) := ⟨by rw [HPR.out, HRC2.out, HRI.out]⟩
                  have HE2 : Aside0 (sRow sProto s1 = ((ps ++ [⟨n0, n1, ys, zs⟩]) ++ (sMany sProto gg s7).1, (sMany sProto gg s7).2)) := ⟨by rw [HE.out, HPR2.out]⟩
                  obtain ⟨u0, u1, ob⟩ := hG.out.o
                  have p0 : wr.cell? ⟨bo, 1, none⟩ = some u1 := (zaY ob.o 1).trans rfl
                  have f0 := zbY ob.o 1
                  have x0 : wr.cell? ⟨bf, 0, none⟩ = some (.int .i64 n0) := (zaY hF.out.f 0).trans rfl
                  have x1 : wr.cell? ⟨bf, 1, none⟩ = some (.int .i64 n1) := (zaY hF.out.f 1).trans rfl
                  have x2 : wr.cell? ⟨bf, 2, none⟩ = some v2 := (zaY hF.out.f 2).trans rfl
                  have x3 : wr.cell? ⟨bf, 3, none⟩ = some v3 := (zaY hF.out.f 3).trans rfl
                  have HOB := amZ ob
                  have HSP := amZ hG.out.l
                  have HPL : Aside0 (ps.length ≤ 2097152) := ⟨by have := hL.out; have := HMM.out; omega⟩
                  have HBF : Aside0 (bf + 1 ≤ wr.heap.size) := ⟨ziY hF.out.f⟩
                  have HV2 := amZ hF.out.r2
                  have HV3 := amZ hF.out.r3
                  obtain ⟨A2, c2, ev2⟩ := Kd.R_slice hF.out.r2
                  obtain ⟨A3, c3, ev3⟩ := Kd.R_slice hF.out.r3
                  subst ev2
                  subst ev3
                  clear ob hEI hi2 hZL hF hG b2 HBV
                  go_wp2_with (at_builtin; refine Bx.proto_list (N := bf + 1) (HOB.out.mono (fun k hk => Nat.lt_succ_of_lt hk)) HSP.out.b (Nat.le_succ_of_le HLB.out.2.2) HBF.out ⟨n0, n1, ys, zs⟩ _ _ HV2.out HV3.out HPL.out rfl (.tmp 174) (.tmp 176) rfl rfl rfl ?_; intro A4 c4 w4 hp4; have HPG4 := amZ (Sg.put1 HSP.out HOB.out.o hp4); have p4 : w4.cell? ⟨bo, 1, none⟩ = some u1 := (zaY hp4.1 1).trans rfl; have f4 := zbY hp4.1 1; clear hp4)
                  go_roundg gg
                  case measure => omega
                  case rel => exact ⟨i + 1, s7, _, i64_next HLT.out (by have := HMM.out; omega), ⟨by have := hi.out; omega⟩, HPG4, ⟨by rw [List.length_append, hL.out]; rfl⟩, HE2⟩
        | false =>
          have HRP := amZ (row_exit hE.out (guard_false HBV.out hi.out))
          have HALL : Aside0 (sProg s0 = ((cs, ps), s2)) := ⟨by
            show (((sRow sConst s0).1, (sRow sProto (sRow sConst s0).2).1), (sRow sProto (sRow sConst s0).2).2) = _
            rw [HRC.out]
            show ((cs, (sRow sProto s1).1), (sRow sProto s1).2) = _
            rw [HRP.out]⟩
          clear hE hi hL HBV
          obtain ⟨u0, u1, ob⟩ := hG.out.o
          obtain ⟨A0, c0, e0⟩ := Kd.S_slice ob.s0
          obtain ⟨A1, c1, e1⟩ := Kd.S_slice ob.s1
          subst e0
          subst e1
          have HOB := amZ ob
          have HSP := amZ hG.out.l
          have y0 : wr.cell? ⟨bo, 0, none⟩ = some (.slice A0 cs.length c0) := (zaY ob.o 0).trans rfl
          have y1 : wr.cell? ⟨bo, 1, none⟩ = some (.slice A1 ps.length c1) := (zaY ob.o 1).trans rfl
          obtain ⟨ok, hok⟩ : ∃ ok : Bool, ok = (!s2.2 && (chkT cs ps && decide (saveL cs ps = l))) := ⟨_, rfl⟩
          have HI : Aside0 (sAns l = if ok = true then ((cs, ps), 0) else (([], []), 1)) := ⟨by
            have e := HALL.out
            rw [HS0.out] at e
            unfold sAns
            rw [e, hok]
            cases s2.2 <;> cases chkT cs ps <;> simp⟩
          have HOK := amZ hok
          have HFN : Aside0 (s2.2 = false → FineP cs ps ∧ sumCode ps ≤ 1048576) := ⟨fun hb => by
            have e := HALL.out
            rw [HS0.out] at e
            have := s_fine l HC.out.len (by rw [e]; exact hb)
            rwa [e] at this⟩
          have HTX : Aside0 (∀ c ∈ cs, Byt c.f2) := ⟨fun c hc => by
            have e := HALL.out
            rw [HS0.out] at e
            have h := sProg_byt (l.drop 4, false) (fun x hx => HC.out.byt x (List.mem_of_mem_drop hx)) c
            rw [e] at h
            exact h hc⟩
          clear hok ob hG
          go_upto_region 46 with (fail)
          go_cut [195] (fun sx wx => sx = .bool (!ok) ∧ Aside0 (Below wr.heap.size wr wx))
          case first =>
            cases hb : s2.2 with
            | true =>
              rw [hb] at b2
              have ho : ok = false := by rw [HOK.out, hb]; rfl
              subst ho
              clear hb
              go_quiet (fail)
              go_wp2_with fail
              go_meet
              exact ⟨rfl, ⟨pw_below_drewN (Below.refl _ _) _⟩⟩
            | false =>
              rw [hb] at b2
              obtain ⟨hf1, hf2⟩ := HFN.out hb
              obtain ⟨r, hr, er⟩ := check_ev cs ps hf1 hf2
              obtain ⟨k, hk⟩ := er.rounds
              have HK := amZ hk
              cases r with
              | false =>
                have ho : ok = false := by rw [HOK.out, chkT_of hr, hb]; rfl
                subst ho
                have F2 := cellB b2
                have Y0 := cellB y0
                have Y1 := cellB y1
                clear hb hf1 hf2 hr er hk
                refine wp_region_below (by kernel_rfl) (by kernel_rfl) ?_
                repeat (go_big_quiet_step ((first | (intro hC; with_reducible rfl) | (intro hC; go_at_call 8; refine (spec_Check.calls k A0 c0 cs A1 c1 ps false _ (Kd.C_below (Kd.S_reads' HOB.out.s0).2.2 hC) (Kd.S_reads' HOB.out.s0).2.1 (Kd.C_below (Kd.S_reads' HOB.out.s1).2.2 hC) (Kd.S_reads' HOB.out.s1).2.1 HK.out).mono ?_; rintro e w' ⟨rfl, hb⟩; exact ⟨rfl, zdY hC hb⟩) | (intro hC; simp [go_sem, F2 _ hC, Y0 _ hC, Y1 _ hC]; with_reducible rfl))))
                refine wpQuiet_nil ?_
                intro W' hW'
                go_wp2_with fail
                go_meet
                exact ⟨rfl, ⟨hW'⟩⟩
              | true =>
                have HSV := amZ (sound_of hr).save
                obtain ⟨S1, hS1⟩ : ∃ S, S = strOfNums (saveL cs ps) := ⟨_, rfl⟩
                obtain ⟨S2, hS2⟩ : ∃ S, S = strOfNums l := ⟨_, rfl⟩
                have hq : (S1.toList == S2.toList) = ok := by
                  rw [hS1, hS2, str_eq (saveL_byt HTX.out) HC.out.byt, HOK.out, chkT_of hr, hb]; rfl
                have HS12 := amZ (And.intro hS1 hS2)
                have HOd := amZ (HOB.out.below (below_drew (Below.refl _ _)))
                have y0d : wr.drew.cell? ⟨bo, 0, none⟩ = some (.slice A0 cs.length c0) := (zaY HOd.out.o 0).trans rfl
                have y1d : wr.drew.cell? ⟨bo, 1, none⟩ = some (.slice A1 ps.length c1) := (zaY HOd.out.o 1).trans rfl
                have HBd := amZ (below_drew (Below.refl wr.heap.size wr))
                clear hb hf1 hf2 hr er hk hS1 hS2
                go_region_with (first | (go_at_call 8; refine (spec_Check.calls k A0 c0 cs A1 c1 ps true wr.drew (Kd.S_reads' HOd.out.s0).2.2 (Kd.S_reads' HOd.out.s0).2.1 (Kd.S_reads' HOd.out.s1).2.2 (Kd.S_reads' HOd.out.s1).2.1 HK.out).mono ?_; rintro e w8 ⟨rfl, hb⟩; have HO8 := amZ (HOd.out.below hb); have HB8 := amZ (zdY HBd.out hb); have y08 : w8.cell? ⟨bo, 0, none⟩ = some (.slice A0 cs.length c0) := (zaY HO8.out.o 0).trans rfl; have y18 : w8.cell? ⟨bo, 1, none⟩ = some (.slice A1 ps.length c1) := (zaY HO8.out.o 1).trans rfl; have kx8 : (convert 35 9 (.slice A l.length c)).run Try.prog w8 = .ok (.string S2) w8 := (by rw [HS12.out.2]; exact Kd.C_string Try.underlying35 Try.underlying5 Try.underlying9 (Kd.C_below HC.out.rd (zdY HSP.out.b HB8.out))); clear hb) | (go_at_call 37; refine (l5save_calls A0 A1 c0 c1 cs ps w8 (Kd.S_reads' HO8.out.s0).2.2 (Kd.S_reads' HO8.out.s1).2.2 HSV.out).mono ?_; rintro e w9 ⟨v, rfl, hv, hb⟩; obtain ⟨Av, cv, ev⟩ := Kd.R_slice hv; subst ev; have HB9 := amZ (zdY HB8.out hb); have kv9 : (convert 35 9 (.slice Av (saveL cs ps).length cv)).run Try.prog w9 = .ok (.string S1) w9 := (by rw [HS12.out.1]; exact Kd.C_string Try.underlying35 Try.underlying5 Try.underlying9 (Kd.R_reads' hv).2.2); have kx9 : (convert 35 9 (.slice A l.length c)).run Try.prog w9 = .ok (.string S2) w9 := (by rw [HS12.out.2]; exact Kd.C_string Try.underlying35 Try.underlying5 Try.underlying9 (Kd.C_below HC.out.rd (zdY HSP.out.b HB9.out))); clear hb hv))
                all_goals (go_wp2_with fail; go_meet)
                all_goals exact ⟨rfl, ⟨HB9.out⟩⟩
          case rest =>
          obtain ⟨rfl, HBc⟩ := hcut
          have HOc := amZ (HOB.out.below HBc.out)
          have HBW := amZ (zdY HSP.out.b HBc.out)
          have hrb := HBR.out
          have z2 := zbY HOc.out.r 0
          have z3 := zbY HOc.out.r 1
          have z0 : wc.cell? ⟨br, 0, none⟩ = some (.slice none 0 0) := (zaY HOc.out.r 0).trans rfl
          have z1 : wc.cell? ⟨br, 1, none⟩ = some (.slice none 0 0) := (zaY HOc.out.r 1).trans rfl
          have y0 : wc.cell? ⟨bo, 0, none⟩ = some (.slice A0 cs.length c0) := (zaY HOc.out.o 0).trans rfl
          have y1 : wc.cell? ⟨bo, 1, none⟩ = some (.slice A1 ps.length c1) := (zaY HOc.out.o 1).trans rfl
          clear hrb
          cases ok with
          | false =>
            have HF : Aside0 (((wc.setCell ⟨br, 0, none⟩ (.slice none 0 0)).setCell ⟨br, 1, none⟩ (.slice none 0 0)).heap[br]? = some (.cells #[.slice none 0 0, .slice none 0 0] 31 (0, 0))) := ⟨heap_setCell_same _ _ 1 _ 31 _ (heap_setCell_same wc br 0 _ 31 _ HOc.out.r)⟩
            have HBF : Aside0 (Below w.heap.size w ((wc.setCell ⟨br, 0, none⟩ (.slice none 0 0)).setCell ⟨br, 1, none⟩ (.slice none 0 0))) := ⟨(HBW.out.setCell HOc.out.hb.1 _).setCell HOc.out.hb.1 _⟩
            go_wp2_with fail
            refine bodyPost_ret (results_list (rs := [.cell 2 31, .tmp 3]) rfl (by simp) (.cell br 31 _ (0, 0) _ rfl HF.out Try.underlying31 rfl (by kernel_rfl) (.tmp .nil))) rfl ?_
            exact ⟨_, _, by rw [HI.out]; rfl, by rw [HI.out]; exact Kd.S_nil _ _ _ _ _, by rw [HI.out]; exact Kd.S_nil _ _ _ _ _, HBF.out⟩
          | true =>
            have HFI := amZ HOc.out.fin
            have HBF : Aside0 (Below w.heap.size w ((wc.setCell ⟨br, 0, none⟩ (.slice A0 cs.length c0)).setCell ⟨br, 1, none⟩ (.slice A1 ps.length c1))) := ⟨(HBW.out.setCell HOc.out.hb.1 _).setCell HOc.out.hb.1 _⟩
            go_wp2_with fail
            refine bodyPost_ret (results_list (rs := [.cell 2 31, .tmp 3]) rfl (by simp) (.cell br 31 _ (0, 0) _ rfl HFI.out.2.2 Try.underlying31 rfl (by kernel_rfl) (.tmp .nil))) rfl ?_
            exact ⟨_, _, by rw [HI.out]; rfl, by rw [HI.out]; exact HFI.out.1, by rw [HI.out]; exact HFI.out.2.1, HBF.out⟩
end Go.Proofs.Ytmmpiojekgfdjaa.C
