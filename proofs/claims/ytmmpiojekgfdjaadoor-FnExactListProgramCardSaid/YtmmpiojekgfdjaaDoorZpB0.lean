/- The text builder. -/
import Derived.Test.YtmmpiojekgfdjaaDoorZpCx0
import Derived.Test.YtmmpiojekgfdjaaDoorZpH1
import Derived.Test.YtmmpiojekgfdjaaDoorZpShelf
import Derived.Lib.Builder
import Derived.Lib.OthersKept
import Derived.Shelf.Strings.BuilderX
import Derived.Test.YtmmpiojekgfdjaaDoorZpK
namespace Go.Proofs.YtmmpiojekgfdjaaDoor.C
open Go.RowKit YtmmpiojekgfdjaaDoorW.PrintWords YtmmpiojekgfdjaaDoorW.PrintLast
set_option linter.unusedVariables false
set_option linter.unusedSimpArgs false
structure Bd (b : Nat) (xs : List Int) (W : World) : Prop where
 ex : ∃ p v, W.heap[b]? = some (.cells #[p, v] 56 (0, 0)) ∧ (p = .pointer none ∨ p = .pointer (some ⟨b, 0, none⟩)) ∧ Kd.R (Kd.int .u8) 5 W (b + 1) (fun _ => True) v xs
def OthersK (b : Nat) (W W' : World) : Prop := ∀ (k : Nat) (cells : Array Value) (t : TypeId), k ≠ b → t ≠ 5 → W.heap[k]? = some (.cells cells t (0, 0)) → W'.heap[k]? = some (.cells cells t (0, 0))
theorem OthersK.trans {b : Nat} {W W1 W2 : World} (h : OthersK b W W1) (k : OthersK b W1 W2) : OthersK b W W2 := fun i c t hi ht hc => k i c t hi ht (h i c t hi ht hc)
theorem OthersK.refl (b : Nat) (W : World) : OthersK b W W := fun _ _ _ _ _ h => h
theorem OthersK.below {b : Nat} {W W1 : World} (hb : Below W.heap.size W W1) : OthersK b W W1 := fun k _ _ _ _ h => (hb.block k (zlY h)).trans h
theorem Bd.below {b : Nat} {xs : List Int} {W W1 : World} (h : Bd b xs W) (hb : Below W.heap.size W W1) : Bd b xs W1 := by
 obtain ⟨p, v, h1, h2, h3⟩ := h.ex
 exact ⟨p, v, (hb.block _ (zlY h1)).trans h1, h2, Kd.R_below h3 hb⟩
theorem Bd.lt {b : Nat} {xs : List Int} {W : World} (h : Bd b xs W) : b < W.heap.size := by
 obtain ⟨p, v, h1, _⟩ := h.ex
 exact zlY h1
theorem sizeBd : (Tryd.prog.info? 56).map (·.size) = some 2 := by kernel_rfl
theorem liesBd : liesAt Tryd.prog Tryd.prog.depth 56 (2 / Tryd.prog.cellsOf 56) 0 56 1 = true := by kernel_rfl
set_option maxHeartbeats 1000000 in
set_option maxRecDepth 100000 in
theorem copyCheck_used (b : Nat) (w : World) (h0 : w.cell? ⟨b, 0, none⟩ = some (.pointer (some ⟨b, 0, none⟩))) :
  Calls Tryd.prog 46 #[.pointer (some ⟨b, 0, none⟩)] w fun e w' => e = .returned (.tuple #[]) ∧ w = w' := by
 obtain ⟨j, hj, _⟩ := Option.map_eq_some_iff.1 sizeBd
 go_enter Tryd.func46, Tryd.ntmps46
 go_wp2
 rw [Lib.run_neq_ptr_same w _ Tryd.underlying54 hj]
 go_wp2
 go_end0
 exact ⟨rfl, rfl⟩
set_option maxHeartbeats 1000000 in
set_option maxRecDepth 100000 in
theorem copyCheck_fresh (b : Nat) (w : World) (h0 : w.cell? ⟨b, 0, none⟩ = some (.pointer none)) (hsh : w.shape? b = some (56, 2)) (hfz : w.frozen? ⟨b, 0, none⟩ = false) :
  Calls Tryd.prog 46 #[.pointer (some ⟨b, 0, none⟩)] w fun e w' => e = .returned (.tuple #[]) ∧ w.setCell ⟨b, 0, none⟩ (.pointer (some ⟨b, 0, none⟩)) = w' := by
 obtain ⟨j, hj, hjs⟩ := Option.map_eq_some_iff.1 sizeBd
 go_enter Tryd.func46, Tryd.ntmps46
 go_wp2
 rw [Lib.run_to_unsafe w ⟨b, 0, none⟩ Tryd.underlying54 Tryd.underlying126 hj (by rw [hjs]; decide) hsh (Nat.zero_lt_succ 1)]
 simp only [Result.andThen]
 rw [Oper.upon_value]
 go_wp2
 rw [run_callFunc_extern Tryd.func66 (by kernel_rfl) (by kernel_rfl) (by kernel_rfl) (e := Extern.AbiNoEscape.same) (by kernel_rfl)]
 rw [Lib.run_noEscape]
 simp only [Result.andThen]
 rw [Oper.upon_value]
 go_wp2
 rw [Lib.run_from_unsafe w ⟨b, 0, none⟩ Tryd.underlying126 Tryd.underlying54 hj hsh liesBd]
 simp only [Result.andThen]
 rw [Oper.upon_value]
 go_wp2
 go_end0
 exact ⟨rfl, rfl⟩
theorem copyCheck_calls (b : Nat) (xs : List Int) (w : World) (h : Bd b xs w) :
  Calls Tryd.prog 46 #[.pointer (some ⟨b, 0, none⟩)] w fun e w' => e = .returned (.tuple #[]) ∧ Bd b xs w' ∧ Below b w w' ∧ OthersK b w w' := by
 obtain ⟨p, v, h1, h2, h3⟩ := h.ex
 rcases h2 with rfl | rfl
 ·
  refine (copyCheck_fresh b w ((zaY h1 0).trans rfl) (by simp [World.shape?, h1]) (zbY h1 0)).mono ?_
  rintro e w' ⟨rfl, rfl⟩
  refine ⟨rfl, ⟨_, v, heap_setCell_same w b 0 _ 56 _ h1, .inr rfl, Kd.R_set h3 h1 (by decide) 0 _⟩, (Below.refl b w).setCell (Nat.le_refl _) _, ?_⟩
  intro k cells t hk _ hc
  exact blk_far hc hk _
 ·
  refine (copyCheck_used b w ((zaY h1 0).trans rfl)).mono ?_
  rintro e w' ⟨rfl, rfl⟩
  exact ⟨rfl, h, Below.refl b w, OthersK.refl b w⟩
theorem R_own5 {W : World} {B : Nat} {ok : Nat → Prop} {v : Value} {xs : List Int} (h : Kd.R (Kd.int .u8) 5 W B ok v xs) : W.ownsRow B 5 1 v xs.length (nums .u8 xs) := Kd.own_of_R h
theorem append_after {b : Nat} {p v v2 : Value} {xs ys : List Int} {w w1 w2 : World} (hb : Below b w w1) (ho : OthersK b w w1) (h1 : w1.heap[b]? = some (.cells #[p, v] 56 (0, 0))) (h2 : p = .pointer none ∨ p = .pointer (some ⟨b, 0, none⟩)) (h3 : Kd.R (Kd.int .u8) 5 w1 (b + 1) (fun _ => True) v xs)
  (hown : w2.ownsRow (b + 1) 5 1 v2 ys.length (nums .u8 ys)) (hg : w1.grownBy w2 v.ownBlock) :
  w2.heap[b]? = some (.cells #[p, v] 56 (0, 0)) ∧ (∃ A c, v2 = .slice A ys.length c) ∧ Bd b ys (w2.setCell ⟨b, 1, none⟩ v2) ∧ Below b w (w2.setCell ⟨b, 1, none⟩ v2) ∧ OthersK b w (w2.setCell ⟨b, 1, none⟩ v2) := by
 have hr : Kd.R (Kd.int .u8) 5 w2 (b + 1) (fun _ => True) v2 ys := Kd.R_of_own hown (fun _ _ => trivial)
 have hf : w2.heap[b]? = some (.cells #[p, v] 56 (0, 0)) := blk_grown h1 hg (Kd.R_ne h3 h1 (by decide))
 refine ⟨hf, Kd.R_slice hr, ⟨p, v2, heap_setCell_same w2 b 1 _ 56 v2 hf, h2, Kd.R_set hr hf (by decide) 1 v2⟩, ?_, ?_⟩
 ·
  exact hb.trans (((Below.refl b w1).grown hg (Nat.le_of_lt (zlY h1)) (fun k hk => Nat.le_of_succ_le (Kd.R_base h3 k hk))).setCell (Nat.le_refl _) v2)
 ·
  refine ho.trans fun k cells t hk ht hc => ?_
  have h5 : w2.heap[k]? = some (.cells cells t (0, 0)) := blk_grown hc hg (Kd.R_ne h3 hc (fun e => ht e.symm))
  exact blk_far h5 hk v2
set_option maxHeartbeats 1000000 in
set_option maxRecDepth 100000 in
theorem ws_calls (b : Nat) (xs : List Int) (s : ByteArray) (w : World) (h : Bd b xs w) (hl : xs.length + s.size ≤ 140737488355328) :
  Calls Tryd.prog 22 #[.pointer (some ⟨b, 0, none⟩), .string s] w fun e w' => e = .returned (.tuple #[.int .i64 s.size, .nilIface]) ∧ Bd b (xs ++ bytesOf s) w' ∧ Below b w w' ∧ OthersK b w w' := by
 have HD := amZ h
 have HL := amZ hl
 clear h hl
 go_enter Tryd.func22, Tryd.ntmps22
 go_wp2_with fail
 refine (copyCheck_calls b xs w HD.out).mono ?_
 rintro e w1 ⟨rfl, hd, hb, ho⟩
 obtain ⟨p, v, h1, h2, h3⟩ := hd.ex
 have H1 := amZ h1
 have H2 := amZ h2
 have H3 := amZ h3
 have HB := amZ hb
 have HO := amZ ho
 have c1 : w1.cell? ⟨b, 1, none⟩ = some v := (zaY h1 1).trans rfl
 clear h1 h2 h3 hb ho hd HD
 go_wp2_with (at_builtin; refine print_append_str (w0 := w1) (b + 1) rfl (.tmp 12) (.tmp 13) 27 9 5 rfl Tryd.underlying27 Tryd.underlying9 info5 v xs s rfl rfl (R_own5 H3.out) (Below.refl _ _) (zlY H1.out) HL.out ?_; intro v2 w2 ho2 hb2 hg2; have h4 := append_after HB.out HO.out H1.out H2.out H3.out ho2 hg2; have HP := amZ h4.2.2; have f1 := zbY h4.1 1; have c1' : w2.cell? ⟨b, 1, none⟩ = some v := (zaY h4.1 1).trans rfl; obtain ⟨A2, k2, e2⟩ := h4.2.1; subst e2; clear ho2 hb2 hg2 h4)
 refine bodyPost_ret (results_list (rs := [.tmp 4, .tmp 5]) rfl (by simp) (.tmp (.tmp .nil))) rfl ?_
 exact ⟨rfl, by have h := HP.out; rwa [List.length_append] at h⟩
def BytL (l : List Int) : Prop := ∀ c ∈ l, 0 ≤ c ∧ c < 256
theorem bytL_bytes (s : ByteArray) : BytL (bytesOf s) := by
 intro c hc
 obtain ⟨u, _, rfl⟩ := List.mem_map.1 hc
 have := u.toNat_lt
 omega
theorem BytL.app {a b : List Int} (ha : BytL a) (hb : BytL b) : BytL (a ++ b) := fun x hx => (List.mem_append.1 hx).elim (ha x) (hb x)
theorem byteCells_of {xs : List Int} (h : BytL xs) : Lib.byteCells (xs.map fun n => UInt8.ofNat n.toNat) = nums .u8 xs := by
 unfold Lib.byteCells nums
 rw [List.map_map]
 refine List.map_congr_left fun x hx => ?_
 have := h x hx
 show Value.int .u8 ((UInt8.ofNat x.toNat).toNat : Int) = _
 rw [UInt8.toNat_ofNat']
 congr 1
 omega
theorem str_calls (b : Nat) (xs : List Int) (w : World) (h : Bd b xs w) (hx : BytL xs) :
  Calls Tryd.prog 27 #[.pointer (some ⟨b, 0, none⟩)] w fun e w' => e = .returned (.string (strOfNums xs)) ∧ Below b w w' := by
 obtain ⟨p, v, h1, h2, h3⟩ := h.ex
 have ho := R_own5 h3
 have hne : v.ownBlock ≠ some b := fun e => by have := Kd.R_base h3 b e; omega
 have hat : Lib.BuilderAt 56 5 b b p (Lib.byteCells (xs.map fun n => UInt8.ofNat n.toNat)) w := by
  refine ⟨Nat.le_refl _, v, h1, ?_, hne⟩
  rw [byteCells_of hx]
  have : (nums .u8 xs).length = xs.length := by simp [nums]
  rw [this]
  exact own_less ho (Nat.le_succ b)
 have hib : Lib.IsBuilder 56 5 b b (Lib.byteCells (xs.map fun n => UInt8.ofNat n.toNat)) w := by
  rcases h2 with rfl | rfl
  ·
   exact .inl hat
  ·
   exact .inr hat
 exact Tryd.Builder_String_any b b _ w hib (Nat.le_of_lt (zlY h1))
end Go.Proofs.YtmmpiojekgfdjaaDoor.C
