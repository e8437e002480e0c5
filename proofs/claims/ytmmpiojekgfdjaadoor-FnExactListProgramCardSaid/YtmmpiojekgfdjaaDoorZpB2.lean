/- The listing. -/
import Derived.Test.YtmmpiojekgfdjaaDoorZpB1
import Derived.Test.YtmmpiojekgfdjaaDoorZpH9
import Derived.Test.YtmmpiojekgfdjaaDoorZpCx9
import Derived.Deep.RegionLaw
import Derived.Lib.ItoaLen
import Derived.Test.YtmmpiojekgfdjaaDoorZpK
namespace Go.Proofs.YtmmpiojekgfdjaaDoor.C
open Go.RowKit YtmmpiojekgfdjaaDoorW.PrintWords YtmmpiojekgfdjaaDoorW.PrintLast
set_option linter.unusedVariables false
set_option linter.unusedSimpArgs false
structure LW (w : World) (b : Nat) (xs : List Int) (K : List (Nat × Array Value × TypeId)) (W : World) : Prop where
 b0 : Below w.heap.size w W
 d : Bd b xs W
 hb : w.heap.size ≤ b
 k : ∀ q ∈ K, W.heap[q.1]? = some (.cells q.2.1 q.2.2 (0, 0)) ∧ q.1 ≠ b ∧ q.2.2 ≠ 5 ∧ q.2.2 ≠ 9
theorem LW.below {w W W1 : World} {b : Nat} {xs : List Int} {K : List (Nat × Array Value × TypeId)} (h : LW w b xs K W) (hb : Below W.heap.size W W1) : LW w b xs K W1 :=
 ⟨zcY h.b0 hb, h.d.below hb, h.hb, fun q hq => ⟨(hb.block _ (zlY (h.k q hq).1)).trans (h.k q hq).1, (h.k q hq).2⟩⟩
theorem LW.alloc {w W : World} {b : Nat} {xs : List Int} {K : List (Nat × Array Value × TypeId)} (h : LW w b xs K W) (o : Obj) : LW w b xs K (W.alloc o) := h.below ((Below.refl _ _).alloc (Nat.le_refl _) _)
theorem LW.drew {w W : World} {b : Nat} {xs : List Int} {K : List (Nat × Array Value × TypeId)} (h : LW w b xs K W) : LW w b xs K W.drew := h.below (below_drew (Below.refl _ _))
theorem LW.add {w W : World} {b : Nat} {xs : List Int} {K : List (Nat × Array Value × TypeId)} (h : LW w b xs K W) (g : Nat) (cells : Array Value) (t : TypeId) (hg : W.heap[g]? = some (.cells cells t (0, 0))) (hb : g ≠ b) (h5 : t ≠ 5) (h9 : t ≠ 9) : LW w b xs ((g, cells, t) :: K) W :=
 ⟨h.b0, h.d, h.hb, fun q hq => by rcases List.mem_cons.1 hq with rfl | hq; exact ⟨hg, hb, h5, h9⟩; exact h.k q hq⟩
theorem LW.less {w W : World} {b : Nat} {xs : List Int} {K K' : List (Nat × Array Value × TypeId)} (h : LW w b xs K W) (hk : ∀ q ∈ K', q ∈ K) : LW w b xs K' W := ⟨h.b0, h.d, h.hb, fun q hq => h.k q (hk q hq)⟩
theorem LW.tail {w W : World} {b : Nat} {xs : List Int} {q : Nat × Array Value × TypeId} {K : List (Nat × Array Value × TypeId)} (h : LW w b xs (q :: K) W) : LW w b xs K W := h.less fun _ hq => List.mem_cons_of_mem _ hq
theorem LW.line {w W W1 : World} {b : Nat} {xs ys : List Int} {K : List (Nat × Array Value × TypeId)} (h : LW w b xs K W) (hd : Bd b ys W1) (hb : Below b W W1) (ho : OthersK b W W1) : LW w b ys K W1 :=
 ⟨h.b0.trans (hb.mono h.hb), hd, h.hb, fun q hq => ⟨ho _ _ _ (h.k q hq).2.1 (h.k q hq).2.2.1 (h.k q hq).1, (h.k q hq).2⟩⟩
theorem LW.grown {w W w1 : World} {b B : Nat} {xs : List Int} {K : List (Nat × Array Value × TypeId)} {v : Value} {ps : List ByteArray} {ok : Nat → Prop} (h : LW w b xs K W) (hr : Kd.R Kd.string 9 W B ok v ps) (hg : W.grownBy w1 v.ownBlock) (hb : Below w.heap.size w w1) : LW w b xs K w1 := by
 obtain ⟨p, u, h1, h2, h3⟩ := h.d.ex
 refine ⟨hb, ⟨p, u, blk_grown h1 hg (Kd.R_ne hr h1 (by decide)), h2, Kd.R_over h3 hr (by decide) hg⟩, h.hb, fun q hq => ⟨blk_grown (h.k q hq).1 hg (Kd.R_ne hr (h.k q hq).1 (fun e => (h.k q hq).2.2.2 e.symm)), (h.k q hq).2⟩⟩
theorem LW.cell {w W : World} {b : Nat} {xs : List Int} {K : List (Nat × Array Value × TypeId)} (h : LW w b xs K W) (q : Nat × Array Value × TypeId) (hq : q ∈ K) (j : Nat) : W.cell? ⟨q.1, j, none⟩ = q.2.1[j]? := zaY (h.k q hq).1 j
theorem strR_lit (W : World) (B : Nat) (hB : B ≤ W.heap.size) (ss : List ByteArray) (hm : ss.length ≤ 9223372036854775807) : Kd.R Kd.string 9 (W.alloc (.cells (ss.map Value.string).toArray 9)) B (fun _ => True) (.slice (some ⟨W.heap.size, 0, none⟩) ss.length ss.length) ss := by
 refine ⟨fun _ _ => trivial, ss.map Value.string, ?_, ?_⟩
 ·
  have h2 := World.ownsRow_lit (base := B) (e := 9) (size := 1) W (ss.map Value.string).toArray ss.length hB (by simpa [maxLen] using hm) (by simp)
  simpa [show Kd.string.sz = 1 from rfl] using h2
 ·
  refine ⟨by simp [show Kd.string.sz = 1 from rfl], fun j p hp => ?_⟩
  show ((ss.map Value.string).drop (j * 1)).take 1 = [.string p]
  obtain ⟨hj, hp⟩ := List.getElem?_eq_some_iff.1 hp
  rw [Nat.mul_one, List.drop_eq_getElem_cons (by simpa using hj), List.getElem_map, hp]
  rfl
section
variable {ops : Array Oper} {rest : List Oper} {o : Oper} {a : Act} {Q : Exit → Act → World → Prop}
theorem str_append {w W : World} {b : Nat} {xs : List Int} {K : List (Nat × Array Value × TypeId)} {A0 : Option Addr} {c0 : Nat} {ps : List ByteArray} (HL : LW w b xs K W) (HO : Kd.R Kd.string 9 W (b + 1) (fun _ => True) (.slice A0 ps.length c0) ps) (hl : ps.length ≤ 1000000)
  (hgd : o.guard = none) (s x : Operand) (y : ByteArray) (ho : o.op = .call { callee := .builtin .append, args := #[s, x], argTypes := #[57, 57] }) (hs : a.eval s = .slice A0 ps.length c0) (hx : a.eval x = .slice (some ⟨W.heap.size, 0, none⟩) 1 1)
  (h : ∀ A c w1, Kd.R Kd.string 9 w1 (b + 1) (fun _ => True) (.slice A (ps.length + 1) c) (ps ++ [y]) → LW w b xs K w1 → wpList Tryd.prog ops Q rest (a.put o.dst (.slice A (ps.length + 1) c)) w1) :
  wpList Tryd.prog ops Q (o :: rest) a (W.alloc (.cells #[.string y] 9)) := by
 refine Kd.R_append Kd.string (w0 := W) (b + 1) hgd s x 57 9 (.string ⟨#[]⟩) 16 ho Tryd.underlying57 info9 rfl (by decide) (by omega) _ ps y [.string y] (fun _ => True) (fun _ => False) hs hx rfl (fun _ h => h.elim) (fun _ _ => trivial) HO (Below.refl _ _) HL.d.lt (by omega) ?_
 intro v1 w1 hr hb hg _
 have hL1 : LW w b xs K w1 := HL.grown HO hg (HL.b0.trans (hb.mono (Nat.le_succ_of_le HL.hb)))
 obtain ⟨A, c, rfl⟩ := Kd.R_slice hr
 rw [List.length_append, List.length_singleton] at hr ⊢
 exact h A c w1 hr hL1
end
theorem decS_size {v : Int} (h : IntOK v) : (decS v).size ≤ 21 := by
 unfold decS decL
 have h1 := Lib.itoa_length_le v h.1 h.2
 have h2 : (strOfNums ((Lib.itoa v).map fun c => (c.toNat : Int))).size = (Lib.itoa v).length := by simp [strOfNums, ByteArray.size]
 omega
structure Bw (W : World) (base : Nat) (A : Option Addr) (c : Nat) (xs : List Int) : Prop where
 le : xs.length ≤ c
 mx : xs.length ≤ 9223372036854775807
 at_ : 0 < xs.length → ∃ g cells, A = some ⟨g, 0, none⟩ ∧ base ≤ g ∧ W.heap[g]? = some (.cells cells 5 (cells.size, cells.size + 1)) ∧ xs.length ≤ cells.size ∧ ∀ j (hj : j < xs.length), cells[j]? = some (.int .u8 xs[j])
theorem Bw.nil (W : World) (base : Nat) : Bw W base none 0 [] := ⟨Nat.le_refl _, by simp, fun h => by simp at h⟩
theorem Bw.conv (W : World) (base : Nat) (hb : base ≤ W.heap.size) {xs : List Int} (hx : BytL xs) (hl : xs.length ≤ 100000000000) : Bw (Lib.bytesWorld W 5 (strOfNums xs)) base (some ⟨W.heap.size, 0, none⟩) (grownCap W (strOfNums xs).size 0 5) xs := by
 have hs := strOfNums_size xs
 have hg := grownCap_ge W (strOfNums xs).size 0 5
 refine ⟨by omega, by omega, fun _ => ⟨_, _, rfl, hb, Lib.bytesWorld_at_new W 5 (strOfNums xs), ?_, fun j hj => ?_⟩⟩
 ·
  simp [Lib.bytesCells, strOfNums]
 ·
  have := hx _ (List.getElem_mem hj)
  simp only [Lib.bytesCells, strOfNums]
  rw [Array.getElem?_append_left (by simp; exact hj)]
  simp [List.getElem?_eq_getElem hj]
  omega
def capW (c : S48) : ByteArray := (if c.f0 = true then ⟨#[117, 112]⟩ else ⟨#[115, 108, 111, 116]⟩) ++ decS c.f1
def headP (i : Nat) (f : S45) : List ByteArray := [decS i, decS f.f0, decS f.f1] ++ f.f2.map capW
def argP (qt : List Int → List Int) (cs : List S69) (x : S51) : List ByteArray :=
 if x.f0 = 0 then (if (rd_T69 cs x.f1).f0 = true then [strOfNums (qt (rd_T69 cs x.f1).f2)] else [decS (rd_T69 cs x.f1).f1])
 else (if rowA x.f0.toNat = 0 then [] else [decS x.f1]) ++ (if rowB x.f0.toNat = 0 then [] else [decS x.f2])
def insP (qt : List Int → List Int) (cs : List S69) (x : S51) : List ByteArray := rowW x.f0.toNat :: argP qt cs x
def insL (qt : List Int → List Int) (cs : List S69) (k : Nat) (x : S51) : List Int := lineL ((⟨#[32, 32]⟩ : ByteArray) ++ decS k) (insP qt cs x)
def codeL (qt : List Int → List Int) (cs : List S69) : Nat → List S51 → List Int
 | _, [] => []
 | k, x :: xs => insL qt cs k x ++ codeL qt cs (k + 1) xs
def wordFn : ByteArray := ⟨#[102, 117, 110, 99, 116, 105, 111, 110]⟩
def funcL (qt : List Int → List Int) (cs : List S69) (i : Nat) (f : S45) : List Int := lineL wordFn (headP i f) ++ codeL qt cs 0 f.f3
def listL (qt : List Int → List Int) (cs : List S69) : Nat → List S45 → List Int
 | _, [] => []
 | i, f :: fs => funcL qt cs i f ++ listL qt cs (i + 1) fs
structure GoodP (qt : List Int → List Int) (cs : List S69) (ps : List S45) : Prop where
 q : ∀ c ∈ cs, ∃ k, impl_QuoteText.f k c.f2 = some (qt c.f2)
 c : ∀ c ∈ cs, IntOK c.f1
 p : ∀ p ∈ ps, IntOK p.f0 ∧ IntOK p.f1 ∧ p.f2.length ≤ 100 ∧ p.f3.length ≤ 20000 ∧ (∀ u ∈ p.f2, IntOK u.f1) ∧ ∀ x ∈ p.f3, 0 ≤ x.f0 ∧ x.f0 < 28 ∧ IntOK x.f1 ∧ IntOK x.f2 ∧ (x.f0 = 0 → 0 ≤ x.f1 ∧ x.f1 < cs.length)
 n : ps.length ≤ 500
 t : (listL qt cs 0 ps).length ≤ 100000000000
 b : BytL (listL qt cs 0 ps)
def impl_ListProgram.f (qt : List Int → List Int) (cs : List S69) (ps : List S45) (ok : Bool) : List Int := if ok = true then listL qt cs 0 ps else []
theorem Bd.fresh {w : World} : Bd w.heap.size [] (w.alloc (.cells #[.pointer none, .slice none 0 0] 56)) := ⟨⟨_, _, heap_alloc_new _ _, .inl rfl, Kd.R_nil _ _ _ _ _⟩⟩
theorem LW.start {w w1 w4 : World} {bp : Nat} {c : Array Value} (hb1 : Below w.heap.size w w1) (hp : w1.heap[bp]? = some (.cells c 32 (0, 0))) (hb4 : Below (w1.alloc (.cells #[.pointer none, .slice none 0 0] 56)).heap.size (w1.alloc (.cells #[.pointer none, .slice none 0 0] 56)) w4) :
  LW w w1.heap.size [] [(w4.heap.size, rowsV, 66), (bp, c, 32)] ((w4.alloc (.cells Tryd.zeroCells66 66)).setRow w4.heap.size rowsV) := by
 have hlt := zlY hp
 have L1 : LW w w1.heap.size [] [(bp, c, 32)] (w1.alloc (.cells #[.pointer none, .slice none 0 0] 56)) := ⟨hb1.alloc hb1.size _, Bd.fresh, hb1.size, fun q hq => by
  obtain rfl := List.mem_singleton.1 hq
  exact ⟨(heap_alloc_old _ _ hlt).trans hp, by show bp ≠ _; omega, by show (32 : Nat) ≠ 5; decide, by show (32 : Nat) ≠ 9; decide⟩⟩
 have L4 := L1.below hb4
 have hs := hb4.size
 have hs1 : (w1.alloc (.cells #[.pointer none, .slice none 0 0] 56)).heap.size = w1.heap.size + 1 := by simp
 refine (L4.below (setRow_below _ _ _)).add w4.heap.size rowsV 66 (setRow_heap _ _ _ _ _ _ (heap_alloc_new _ _)) (by omega) (by decide) (by decide)
theorem hmfD : ∀ (fn : Fn) (first cap : Array Value) (w : World), (Instr.makeFunc fn first cap).run Tryd.prog w = .ok (.func fn first cap) w := fun _ _ _ _ => rfl
set_option maxHeartbeats 40000000 in
set_option maxRecDepth 100000 in
theorem impl_ListProgram.calls (qt : List Int → List Int) (A0_0 : Option Addr) (c0_0 : Nat) (l0_0 : List S69) (A0_1 : Option Addr) (c0_1 : Nat) (l0_1 : List S45) (r : Bool) (w : World) (hr0_0 : Kd.C k69 w A0_0 l0_0.length l0_0) (hc0_0 : l0_0.length ≤ c0_0)
  (hr0_1 : Kd.C k45 w A0_1 l0_1.length l0_1) (hc0_1 : l0_1.length ≤ c0_1) (hck : impl_Check.f l0_0 l0_1 = some r) (hg : r = true → GoodP qt l0_0 l0_1) (hw : PowTab w) :
  Calls Tryd.prog 7 #[.agg #[.slice A0_0 l0_0.length c0_0, .slice A0_1 l0_1.length c0_1]] w fun e w' => ∃ A c, e = .returned (.slice A (impl_ListProgram.f qt l0_0 l0_1 r).length c) ∧ Bw w' w.heap.size A c (impl_ListProgram.f qt l0_0 l0_1 r) ∧ Below w.heap.size w w' := by
 have HR0 := amZ hr0_0
 have HC0 := amZ hc0_0
 have HR1 := amZ hr0_1
 have HC1 := amZ hc0_1
 have HCK := amZ hck
 have HPW := amZ hw
 have hu32 := Tryd.underlying32
 have HG := amZ hg
 clear hr0_0 hc0_0 hr0_1 hc0_1 hck hg hw
 have HB0 : Aside0 (Below w.heap.size w (w.alloc (.cells #[.slice A0_0 l0_0.length c0_0, .slice A0_1 l0_1.length c0_1] 32))) := ⟨(Below.refl _ _).alloc (Nat.le_refl _) _⟩
 cases r with
 | false =>
  go_enter Tryd.func7, Tryd.ntmps7
  go_wp2_with (go_at_call 20; go_loud (refine (impl_Check.calls A0_0 c0_0 l0_0 A0_1 c0_1 l0_1 false _ (Kd.C_alloc HR0.out _) HC0.out (Kd.C_alloc HR1.out _) HC1.out HCK.out).mono ?_; rintro e w1 ⟨rfl, hb⟩; have HB1 := amZ (zcY HB0.out hb); clear hb))
  go_ret
  exact ⟨_, _, rfl, Bw.nil _ _, HB1.out⟩
 | true =>
  have HGP := amZ (HG.out rfl)
  clear HG
  have hmf := hmfD
  go_enter Tryd.func7, Tryd.ntmps7
  go_wp2_with (first
   | (go_at_call 20; go_loud (refine (impl_Check.calls A0_0 c0_0 l0_0 A0_1 c0_1 l0_1 true _ (Kd.C_alloc HR0.out _) HC0.out (Kd.C_alloc HR1.out _) HC1.out HCK.out).mono ?_; rintro e w1 ⟨rfl, hb⟩; have HB1 := amZ (zcY HB0.out hb); have HP1 : Aside0 (w1.heap[w.heap.size]? = some (.cells #[.slice A0_0 l0_0.length c0_0, .slice A0_1 l0_1.length c0_1] 32 (0, 0))) := ⟨by exact (hb.block _ (by simp)).trans (heap_alloc_new _ _)⟩; clear hb))
   | (go_at_call 25; go_loud (refine (rows_calls _).mono ?_; rintro e w4 ⟨rfl, hb4⟩; have HB4 := amZ hb4; clear hb4))
   | (with_reducible refine wpList_store_row rfl 66 (.tmp 6) (.tmp 21) rfl w4.heap.size rowsV rfl rfl 66 Tryd.zeroCells66 (heap_alloc_new _ _) (by kernel_rfl) (by kernel_rfl) (by kernel_rfl) ?_; go_loud (obtain ⟨w5, hw5⟩ : ∃ x, x = (w4.alloc (.cells Tryd.zeroCells66 66)).setRow w4.heap.size rowsV := ⟨_, rfl⟩; have HL := LW.start HB1.out HP1.out HB4.out; obtain ⟨b, hbb⟩ : ∃ b, b = w1.heap.size := ⟨_, rfl⟩; obtain ⟨g, hgg⟩ : ∃ g, g = w4.heap.size := ⟨_, rfl⟩; rw [← hw5]; rw [← hw5] at HL; simp only [← hbb, ← hgg]; rw [← hbb, ← hgg] at HL; have HL5 := amZ HL; have y1 : w5.cell? ⟨w.heap.size, 1, none⟩ = some (.slice A0_1 l0_1.length c0_1) := (HL.cell _ (List.mem_cons_of_mem _ List.mem_cons_self) 1).trans rfl; clear HL hw5 hbb hgg HB0 HB1 HP1 HB4)))
  clear hmf
  clear y1
  go_loopg [25] l0_1.length (fun gq v25 wr => ∃ (j : Nat) (done : List Int), v25 = .int .i64 (j : Int) ∧ Aside0 (j + gq = l0_1.length) ∧ Aside0 (done ++ listL qt l0_0 j (l0_1.drop j) = listL qt l0_0 0 l0_1) ∧ Aside0 (LW w b done [(g, rowsV, 66), (w.heap.size, #[.slice A0_0 l0_0.length c0_0, .slice A0_1 l0_1.length c0_1], 32)] wr))
  case atStart => exact ⟨0, [], rfl, ⟨by omega⟩, ⟨by simp⟩, HL5⟩
  case round =>
   clear HL5
   obtain ⟨j, done, rfl, hj, hi, HL⟩ := hrel
   by_cases hlt : j < l0_1.length
   ·
    have p0 : 0 ≤ (j : Int) := by omega
    have q0 : (j : Int) < (l0_1.length : Int) := by omega
    obtain ⟨adp, B2, e2, B3, e3, eA, c0, c1, c2, c3, hl2, hi2, hl3, hi3⟩ := at_T45 HR1.out (j : Int) p0 q0
    cases eA
    rw [rdT52_nat l0_1 j hlt, Int.toNat_natCast] at c0 c1 c2 c3
    rw [rdT52_nat l0_1 j hlt] at hl2 hi2 hl3 hi3
    have HGF := amZ (HGP.out.p _ (List.getElem_mem hlt))
    obtain ⟨f, hf⟩ : ∃ f, f = l0_1[j] := ⟨_, rfl⟩
    rw [← hf] at c0 c1 c2 c3 hl2 hi2 hl3 hi3 HGF
    have hd : l0_1.drop j = f :: l0_1.drop (j + 1) := by rw [List.drop_eq_getElem_cons hlt, hf]
    have HI : Aside0 (done ++ (funcL qt l0_0 j f ++ listL qt l0_0 (j + 1) (l0_1.drop (j + 1))) = listL qt l0_0 0 l0_1) := ⟨by have := hi.out; rw [hd] at this; exact this⟩
    clear hd hi
    replace c0 := zdY HL.out.b0 c0
    replace c1 := zdY HL.out.b0 c1
    replace c2 := zdY HL.out.b0 c2
    replace c3 := zdY HL.out.b0 c3
    have HI2 := amZ hi2
    have HL2 := amZ hl2
    have HI3 := amZ hi3
    have HL3 := amZ hl3
    clear hf hi2 hl2 hl3 hi3
    obtain ⟨f0, f1, f2, f3⟩ := f
    simp only at c0 c1 c2 c3 HI HI2 HL2 HI3 HL3 HGF
    have dl : decide ((j : Int) < (l0_1.length : Int)) = true := decide_eq_true q0
    have dn : decide (j < l0_1.length) = true := decide_eq_true hlt
    have HLT := amZ hlt
    replace p0 := eq_true p0
    replace q0 := eq_true q0
    go_upto_region 10 with (fail)
    obtain ⟨W, hW⟩ : ∃ W, W = wr.alloc (.cells #[.int .i64 f0, .int .i64 f1, .slice B2 f2.length e2, .slice B3 f3.length e3] 45) := ⟨_, rfl⟩
    obtain ⟨bf, hbf⟩ : ∃ n, n = wr.heap.size := ⟨_, rfl⟩
    have HLW : Aside0 (LW w b done [(bf, #[.int .i64 f0, .int .i64 f1, .slice B2 f2.length e2, .slice B3 f3.length e3], 45), (g, rowsV, 66), (w.heap.size, #[.slice A0_0 l0_0.length c0_0, .slice (some adp) l0_1.length c0_1], 32)] W) := ⟨by rw [hW, hbf]; exact (HL.out.alloc _).add _ _ _ (heap_alloc_new _ _) (by have := HL.out.d.lt; omega) (by decide) (by decide)⟩
    have HJ : Aside0 (IntOK (j : Int)) := ⟨by have := HGP.out.n; unfold IntOK; omega⟩
    simp only [← hW, ← hbf]
    clear hW hbf c0 c1 c2 c3 HL
    go_cut [9] (fun v9 wx => ∃ A c, v9 = .slice A 3 c ∧ Aside0 (Kd.R Kd.string 9 wx (b + 1) (fun _ => True) (.slice A 3 c) [decS j, decS f0, decS f1]) ∧ Aside0 (LW w b done [(bf, #[.int .i64 f0, .int .i64 f1, .slice B2 f2.length e2, .slice B3 f3.length e3], 45), (g, rowsV, 66), (w.heap.size, #[.slice A0_0 l0_0.length c0_0, .slice (some adp) l0_1.length c0_1], 32)] wx))
    case first =>
     have HX := amZ HLW.out.drew
     have x0 : W.drew.cell? ⟨bf, 0, none⟩ = some (.int .i64 f0) := (HX.out.cell _ List.mem_cons_self 0).trans rfl
     have x1 : W.drew.cell? ⟨bf, 1, none⟩ = some (.int .i64 f1) := (HX.out.cell _ List.mem_cons_self 1).trans rfl
     clear HLW
     go_region_law (go_simp; go_at_call 23; refine (dec_calls _ _ (HPW.out.below HX.out.b0 trivial) (by first | exact HJ.out | exact HGF.out.1 | exact HGF.out.2.1)).mono ?_; rintro e wn ⟨rfl, hb⟩; have HY := amZ (HX.out.below hb); clear HX hb x0 x1; have HX := HY; clear HY; have x0 : wn.cell? ⟨bf, 0, none⟩ = some (.int .i64 f0) := (HX.out.cell _ List.mem_cons_self 0).trans rfl; have x1 : wn.cell? ⟨bf, 1, none⟩ = some (.int .i64 f1) := (HX.out.cell _ List.mem_cons_self 1).trans rfl)
     all_goals (go_wp2_with fail; go_meet; exact ⟨_, _, rfl, ⟨strR_lit _ _ HX.out.d.lt [decS j, decS f0, decS f1] (by simp)⟩, ⟨HX.out.alloc _⟩⟩)
    case rest =>
     clear HLW
     obtain ⟨A9, c9, rfl, HR9, HX⟩ := hcut
     have x2 : wc.cell? ⟨bf, 2, none⟩ = some (.slice B2 f2.length e2) := (HX.out.cell _ List.mem_cons_self 2).trans rfl
     obtain ⟨K, hK⟩ : ∃ K, K = [(bf, #[.int .i64 f0, .int .i64 f1, .slice B2 f2.length e2, .slice B3 f3.length e3], 45), (g, rowsV, 66), (w.heap.size, #[.slice A0_0 l0_0.length c0_0, .slice (some adp) l0_1.length c0_1], 32)] := ⟨_, rfl⟩
     rw [← hK] at HX
     have HK := amZ hK
     clear hK
     have HHD : Aside0 ([decS j, decS f0, decS f1] ++ f2.map capW = headP j ⟨f0, f1, f2, f3⟩) := ⟨rfl⟩
     go_wp2_with fail
     go_loopg [45, 9] f2.length (fun gq v45 v9 wx => ∃ (i : Nat) (pts : List ByteArray) (A : Option Addr) (c : Nat), v45 = .int .i64 (i : Int) ∧ v9 = .slice A pts.length c ∧ Aside0 (i + gq = f2.length) ∧ Aside0 (pts ++ (f2.drop i).map capW = headP j ⟨f0, f1, f2, f3⟩) ∧ Aside0 (Kd.R Kd.string 9 wx (b + 1) (fun _ => True) (.slice A pts.length c) pts) ∧ Aside0 (LW w b done K wx))
     case atStart => exact ⟨0, [decS j, decS f0, decS f1], A9, c9, rfl, rfl, ⟨by omega⟩, ⟨by rw [List.drop_zero]; exact HHD.out⟩, HR9, HX⟩
     case round =>
      clear HR9 HX x2 HHD
      obtain ⟨i, pts, A, c, rfl, rfl, hi1, hpt, HR9, HX⟩ := hrel
      have HPL : Aside0 (pts.length ≤ 200) := ⟨by have := congrArg List.length hpt.out; have h2 := HGF.out.2.2.1; simp only [headP, List.length_append, List.length_map, List.length_cons, List.length_nil] at this h2; omega⟩
      by_cases hlt1 : i < f2.length
      ·
       have p1 : 0 ≤ (i : Int) := by omega
       have q1 : (i : Int) < (f2.length : Int) := by omega
       obtain ⟨adc, eA, u0, u1⟩ := at_T48 HI2.out (i : Int) p1 q1
       cases eA
       rw [rdT54_nat f2 i hlt1, Int.toNat_natCast] at u0 u1
       replace u0 := zdY HX.out.b0 u0
       replace u1 := zdY HX.out.b0 u1
       have HGC := amZ (HGF.out.2.2.2.2.1 _ (List.getElem_mem hlt1))
       have hd1 : f2.drop i = f2[i] :: f2.drop (i + 1) := List.drop_eq_getElem_cons hlt1
       obtain ⟨cp, hcp⟩ : ∃ x, x = f2[i] := ⟨_, rfl⟩
       rw [← hcp] at u0 u1 HGC hd1
       have HPT : Aside0 ((pts ++ [capW cp]) ++ (f2.drop (i + 1)).map capW = headP j ⟨f0, f1, f2, f3⟩) := ⟨by have := hpt.out; rw [hd1, List.map_cons] at this; rw [List.append_assoc]; exact this⟩
       clear hcp hd1 hpt
       obtain ⟨k0, k1⟩ := cp
       simp only at u0 u1 HGC HPT
       have dl1 : decide ((i : Int) < (f2.length : Int)) = true := decide_eq_true q1
       have dn1 : decide (i < f2.length) = true := decide_eq_true hlt1
       have HLT1 := amZ hlt1
       replace p1 := eq_true p1
       replace q1 := eq_true q1
       have hz0 := decS_size HGC.out
       cases k0 with
       | true =>
        have hz : 2 + (decS k1).size ≤ 9223372036854775807 := by omega
        have hz1 : decide (2 + (decS k1).size ≤ 9223372036854775807) = true := decide_eq_true hz
        have hz2 : (9223372036854775807 < 2 + (decS k1).size) = False := eq_false (Nat.not_lt.2 hz)
        replace hz := eq_true hz
        clear hz0
        have HY := amZ (HX.out.alloc (.cells #[.bool true, .int .i64 k1] 48))
        have HRY := amZ (Kd.R_alloc HR9.out (.cells #[.bool true, .int .i64 k1] 48))
        go_wp2_with (first
         | (go_at_call 23; go_loud (refine (dec_calls _ _ (HPW.out.below HY.out.b0 trivial) HGC.out).mono ?_; rintro e wn ⟨rfl, hb⟩; have HZ := amZ (HY.out.below hb); have HRZ := amZ (Kd.R_below HRY.out hb); clear hb))
         | (at_builtin; go_loud (refine str_append HZ.out HRZ.out (by have := HPL.out; omega) rfl (.tmp 51) (.tmp 58) (capW ⟨true, k1⟩) rfl rfl rfl ?_; intro A4 c4 w4 hr4 hl4; have HR4 := amZ hr4; have HL4 := amZ hl4; clear hr4 hl4)))
        go_roundg (f2.length - (i + 1))
        case measure => have := hi1.out; have := HLT1.out; omega
        case rel => exact ⟨i + 1, pts ++ [capW ⟨true, k1⟩], A4, c4, i64_next HLT1.out (by have := HGF.out.2.2.1; omega), by rw [List.length_append]; rfl, ⟨by have := HLT1.out; omega⟩, HPT, ⟨by rw [List.length_append]; exact HR4.out⟩, HL4⟩
       | false =>
        have hz : 4 + (decS k1).size ≤ 9223372036854775807 := by omega
        have hz1 : decide (4 + (decS k1).size ≤ 9223372036854775807) = true := decide_eq_true hz
        have hz2 : (9223372036854775807 < 4 + (decS k1).size) = False := eq_false (Nat.not_lt.2 hz)
        replace hz := eq_true hz
        clear hz0
        have HY := amZ (HX.out.alloc (.cells #[.bool false, .int .i64 k1] 48))
        have HRY := amZ (Kd.R_alloc HR9.out (.cells #[.bool false, .int .i64 k1] 48))
        go_wp2_with (first
         | (go_at_call 23; go_loud (refine (dec_calls _ _ (HPW.out.below HY.out.b0 trivial) HGC.out).mono ?_; rintro e wn ⟨rfl, hb⟩; have HZ := amZ (HY.out.below hb); have HRZ := amZ (Kd.R_below HRY.out hb); clear hb))
         | (at_builtin; go_loud (refine str_append HZ.out HRZ.out (by have := HPL.out; omega) rfl (.tmp 51) (.tmp 58) (capW ⟨false, k1⟩) rfl rfl rfl ?_; intro A4 c4 w4 hr4 hl4; have HR4 := amZ hr4; have HL4 := amZ hl4; clear hr4 hl4)))
        go_roundg (f2.length - (i + 1))
        case measure => have := hi1.out; have := HLT1.out; omega
        case rel => exact ⟨i + 1, pts ++ [capW ⟨false, k1⟩], A4, c4, i64_next HLT1.out (by have := HGF.out.2.2.1; omega), by rw [List.length_append]; rfl, ⟨by have := HLT1.out; omega⟩, HPT, ⟨by rw [List.length_append]; exact HR4.out⟩, HL4⟩
      ·
       have dl1 : decide ((i : Int) < (f2.length : Int)) = false := decide_eq_false (by omega)
       have dn1 : decide (i < f2.length) = false := decide_eq_false hlt1
       have hpe : pts = headP j ⟨f0, f1, f2, f3⟩ := by have := hpt.out; rwa [List.drop_eq_nil_of_le (by omega), List.map_nil, List.append_nil] at this
       have HPE := amZ hpe
       clear hpe
       have HLL : Aside0 (done.length + (lineL wordFn pts).length ≤ 100000000000) := ⟨by have h1 := congrArg List.length HI.out; have h2 := HGP.out.t; unfold funcL at h1; rw [← HPE.out] at h1; simp only [List.length_append] at h1; omega⟩
       clear hi1 hpt hlt1
       have HI1 : Aside0 ((done ++ lineL wordFn pts) ++ (codeL qt l0_0 0 f3 ++ listL qt l0_0 (j + 1) (l0_1.drop (j + 1))) = listL qt l0_0 0 l0_1) := ⟨by have := HI.out; unfold funcL at this; rw [← HPE.out] at this; rw [List.append_assoc, ← List.append_assoc (lineL wordFn pts)]; exact this⟩
       go_wp2_with (go_at_call 21; go_loud (refine (line_calls b done wordFn pts A c _ HX.out.d HR9.out HLL.out (by have := HPL.out; omega)).mono ?_; rintro e w6 ⟨rfl, hd, hb, ho⟩; have HX6 := amZ (HX.out.line hd hb ho); have y3 : w6.cell? ⟨bf, 3, none⟩ = some (.slice B3 f3.length e3) := (HX6.out.cell _ (by rw [HK.out]; exact List.mem_cons_self) 3).trans rfl; clear hd hb ho))
       clear HX HR9 HLL HPL HPE
       go_loopg [67] f3.length (fun gq v67 wx => ∃ (i : Nat) (d2 : List Int), v67 = .int .i64 (i : Int) ∧ Aside0 (i + gq = f3.length) ∧ Aside0 (d2 ++ (codeL qt l0_0 i (f3.drop i) ++ listL qt l0_0 (j + 1) (l0_1.drop (j + 1))) = listL qt l0_0 0 l0_1) ∧ Aside0 (LW w b d2 K wx))
       case atStart => exact ⟨0, _, rfl, ⟨by omega⟩, ⟨by rw [List.drop_zero]; exact HI1.out⟩, HX6⟩
       case round =>
        clear HX6 HI1 HI y3
        obtain ⟨i2, d2, rfl, hi2, hdn, HX⟩ := hrel
        by_cases hlt2 : i2 < f3.length
        ·
         have p2 : 0 ≤ (i2 : Int) := by omega
         have q2 : (i2 : Int) < (f3.length : Int) := by omega
         obtain ⟨adi, eA, u0, u1, u2⟩ := at_T51 HI3.out (i2 : Int) p2 q2
         cases eA
         rw [rdT57_nat f3 i2 hlt2, Int.toNat_natCast] at u0 u1 u2
         replace u0 := zdY HX.out.b0 u0
         replace u1 := zdY HX.out.b0 u1
         replace u2 := zdY HX.out.b0 u2
         have hgi := HGF.out.2.2.2.2.2 _ (List.getElem_mem hlt2)
         have hd2 : f3.drop i2 = f3[i2] :: f3.drop (i2 + 1) := List.drop_eq_getElem_cons hlt2
         obtain ⟨xi, hxi⟩ : ∃ x, x = f3[i2] := ⟨_, rfl⟩
         rw [← hxi] at u0 u1 u2 hgi hd2
         have HI2N : Aside0 (d2 ++ (insL qt l0_0 i2 xi ++ (codeL qt l0_0 (i2 + 1) (f3.drop (i2 + 1)) ++ listL qt l0_0 (j + 1) (l0_1.drop (j + 1)))) = listL qt l0_0 0 l0_1) := ⟨by have := hdn.out; rw [hd2] at this; rw [← List.append_assoc (insL qt l0_0 i2 xi)]; exact this⟩
         clear hxi hd2 hdn
         obtain ⟨op, xa, xb⟩ := xi
         simp only at u0 u1 u2 hgi HI2N
         obtain ⟨n, rfl⟩ : ∃ n : Nat, op = (n : Int) := ⟨op.toNat, by omega⟩
         have hn28 : n < 28 := by omega
         have HGI := amZ hgi
         have dl2 : decide ((i2 : Int) < (f3.length : Int)) = true := decide_eq_true q2
         have dn2 : decide (i2 < f3.length) = true := decide_eq_true hlt2
         have HLT2 := amZ hlt2
         replace p2 := eq_true p2
         replace q2 := eq_true q2
         have HN28 := amZ hn28
         clear hgi hn28 hlt2
         go_upto_region 23 with (fail)
         obtain ⟨W1, hW1⟩ : ∃ W, W = wr.alloc (.cells #[.int .i64 (n : Int), .int .i64 xa, .int .i64 xb] 51) := ⟨_, rfl⟩
         obtain ⟨bx, hbx⟩ : ∃ m, m = wr.heap.size := ⟨_, rfl⟩
         have HX1 : Aside0 (LW w b d2 ((bx, #[.int .i64 (n : Int), .int .i64 xa, .int .i64 xb], 51) :: K) W1) := ⟨by rw [hW1, hbx]; exact (HX.out.alloc _).add _ _ _ (heap_alloc_new _ _) (by have := HX.out.d.lt; omega) (by decide) (by decide)⟩
         simp only [← hW1, ← hbx]
         clear hW1 hbx u0 u1 u2 HX
         have hta : TabAt W1 g := TabAt.mk (HX1.out.k (g, rowsV, 66) (by rw [HK.out]; exact List.mem_cons_of_mem _ (List.mem_cons_of_mem _ List.mem_cons_self))).1
         obtain ⟨t0, t1, t2, t3, t4⟩ := hta.row n HN28.out
         clear hta
         have v0 : W1.cell? ⟨bx, 0, none⟩ = some (.int .i64 (n : Int)) := (HX1.out.cell _ List.mem_cons_self 0).trans rfl
         have n0 : 0 ≤ (n : Int) := by omega
         have n1 : (n : Int) < 28 := by have := HN28.out; omega
         replace n0 := eq_true n0
         replace n1 := eq_true n1
         have n2 : decide (n < 28) = true := decide_eq_true HN28.out
         go_upto_region 24 with (fail)
         obtain ⟨W2, hW2⟩ : ∃ W, W = W1.alloc (.cells #[.string (rowW n), .int .u8 (rowA n), .int .u8 (rowB n), .int .i64 (rowT n), .int .i64 (rowL n)] 65) := ⟨_, rfl⟩
         obtain ⟨br, hbr⟩ : ∃ m, m = W1.heap.size := ⟨_, rfl⟩
         have HX2 : Aside0 (LW w b d2 ((br, #[.string (rowW n), .int .u8 (rowA n), .int .u8 (rowB n), .int .i64 (rowT n), .int .i64 (rowL n)], 65) :: (bx, #[.int .i64 (n : Int), .int .i64 xa, .int .i64 xb], 51) :: K) W2) := ⟨by rw [hW2, hbr]; exact (HX1.out.alloc _).add _ _ _ (heap_alloc_new _ _) (by have := HX1.out.d.lt; omega) (by decide) (by decide)⟩
         simp only [← hW2, ← hbr]
         clear hW2 hbr t0 t1 t2 t3 t4 v0 HX1
         have z0 : W2.cell? ⟨br, 0, none⟩ = some (.string (rowW n)) := (HX2.out.cell _ List.mem_cons_self 0).trans rfl
         go_cut [16] (fun v16 wx => ∃ A3, v16 = .slice A3 1 1 ∧ Aside0 (Kd.R Kd.string 9 wx (b + 1) (fun _ => True) (.slice A3 ([rowW n] : List ByteArray).length 1) [rowW n]) ∧ Aside0 (LW w b d2 ((br, #[.string (rowW n), .int .u8 (rowA n), .int .u8 (rowB n), .int .i64 (rowT n), .int .i64 (rowL n)], 65) :: (bx, #[.int .i64 (n : Int), .int .i64 xa, .int .i64 xb], 51) :: K) wx))
         case first =>
          go_wp2_with fail
          go_meet
          exact ⟨_, rfl, ⟨strR_lit _ _ HX2.out.d.lt [rowW n] (by simp)⟩, ⟨HX2.out.alloc _⟩⟩
         case rest =>
         obtain ⟨A3, rfl, HR3, HX3⟩ := hcut
         clear HX2 z0
         have x0 : wc.cell? ⟨bx, 0, none⟩ = some (.int .i64 (n : Int)) := (HX3.out.cell _ (List.mem_cons_of_mem _ List.mem_cons_self) 0).trans rfl
         have x1 : wc.cell? ⟨bx, 1, none⟩ = some (.int .i64 xa) := (HX3.out.cell _ (List.mem_cons_of_mem _ List.mem_cons_self) 1).trans rfl
         have y0 : wc.cell? ⟨w.heap.size, 0, none⟩ = some (.slice A0_0 l0_0.length c0_0) := (HX3.out.cell (w.heap.size, #[.slice A0_0 l0_0.length c0_0, .slice (some adp) l0_1.length c0_1], 32) (by rw [HK.out]; simp) 0).trans rfl
         rename_i hk_
         refine hk_ _ _ ?_
         clear hk_
         go_step
         go_cut [16] (fun v16 wx => ∃ (A : Option Addr) (c : Nat), v16 = .slice A (insP qt l0_0 ⟨(n : Int), xa, xb⟩).length c ∧ Aside0 (Kd.R Kd.string 9 wx (b + 1) (fun _ => True) (.slice A (insP qt l0_0 ⟨(n : Int), xa, xb⟩).length c) (insP qt l0_0 ⟨(n : Int), xa, xb⟩)) ∧ Aside0 (LW w b d2 K wx))
         case first =>
          by_cases hn0 : n = 0
          ·
           subst hn0
           obtain ⟨ca0, ca1⟩ := HGI.out.2.2.2.2 rfl
           obtain ⟨adk, Ak, ck, eA, cc0, cc1, cc2, hkl, hkc⟩ := at_T69 HR0.out xa ca0 ca1
           subst eA
           have hm : rd_T69 l0_0 xa ∈ l0_0 := by
            obtain ⟨m, rfl⟩ := Int.eq_ofNat_of_zero_le ca0
            rw [rdT48_nat l0_0 m (by omega)]
            exact List.getElem_mem _
           obtain ⟨kq, hkq⟩ := HGP.out.q _ hm
           have hci := HGP.out.c _ hm
           have HINS : Aside0 (insP qt l0_0 ⟨((0 : Nat) : Int), xa, xb⟩ = [rowW 0] ++ (if (rd_T69 l0_0 xa).f0 = true then [strOfNums (qt (rd_T69 l0_0 xa).f2)] else [decS (rd_T69 l0_0 xa).f1])) := ⟨rfl⟩
           obtain ⟨cc, hcc⟩ : ∃ x, x = rd_T69 l0_0 xa := ⟨_, rfl⟩
           rw [← hcc] at cc0 cc1 cc2 hkl hkc hkq hci HINS
           clear hcc hm
           obtain ⟨g0, g1, g2⟩ := cc
           simp only at cc0 cc1 cc2 hkl hkc hkq hci HINS
           replace cc0 := zdY HX3.out.b0 cc0
           replace cc1 := zdY HX3.out.b0 cc1
           replace cc2 := zdY HX3.out.b0 cc2
           have hkc2 := Kd.C_below hkc HX3.out.b0
           have HKL := amZ hkl
           have HKC := amZ hkc2
           have HKQ := amZ hkq
           have HCI := amZ hci
           clear hkl hkc hkq hci hkc2
           have dca : decide (xa < (l0_0.length : Int)) = true := decide_eq_true ca1
           replace ca0 := eq_true ca0
           replace ca1 := eq_true ca1
           cases g0 with
           | true =>
            have HE : Aside0 (insP qt l0_0 ⟨((0 : Nat) : Int), xa, xb⟩ = [rowW 0] ++ [strOfNums (qt g2)]) := HINS
            go_wp2_with (first
             | (go_at_call 26; go_loud (refine (impl_QuoteText.calls kq Ak ck g2 (qt g2) _ HKC.out HKL.out HKQ.out).mono ?_; rintro e w7 ⟨u, rfl, hu, hb⟩; obtain ⟨Aq, cq, rfl⟩ := Kd.R_slice hu; have kc : (convert 27 9 (.slice Aq (qt g2).length cq)).run Tryd.prog w7 = .ok (.string (strOfNums (qt g2))) w7 := Kd.C_string Tryd.underlying27 Tryd.underlying5 Tryd.underlying9 (Kd.R_reads' hu).2.2; have HX4 := amZ (HX3.out.below hb); have HR4 := amZ (Kd.R_below HR3.out hb); clear hb hu))
             | (at_builtin; go_loud (refine str_append HX4.out HR4.out (by simp) rfl (.tmp 112) (.tmp 122) (strOfNums (qt g2)) rfl rfl rfl ?_; intro A4 c4 w8 hr4 hl4; have HR5 := amZ hr4; have HX5 := amZ hl4; clear hr4 hl4)))
            go_meet
            case rel => exact ⟨_, _, by rw [HE.out]; rfl, ⟨by rw [HE.out]; exact HR5.out⟩, ⟨HX5.out.less (fun q hq => List.mem_cons_of_mem _ (List.mem_cons_of_mem _ hq))⟩⟩
           | false =>
            have HE : Aside0 (insP qt l0_0 ⟨((0 : Nat) : Int), xa, xb⟩ = [rowW 0] ++ [decS g1]) := HINS
            go_wp2_with (first
             | (go_at_call 23; go_loud (refine (dec_calls _ _ (HPW.out.below HX3.out.b0 trivial) HCI.out).mono ?_; rintro e w7 ⟨rfl, hb⟩; have HX4 := amZ (HX3.out.below hb); have HR4 := amZ (Kd.R_below HR3.out hb); clear hb))
             | (at_builtin; go_loud (refine str_append HX4.out HR4.out (by simp) rfl (.tmp 128) (.tmp 138) (decS g1) rfl rfl rfl ?_; intro A4 c4 w8 hr4 hl4; have HR5 := amZ hr4; have HX5 := amZ hl4; clear hr4 hl4)))
            go_meet
            case rel => exact ⟨_, _, by rw [HE.out]; rfl, ⟨by rw [HE.out]; exact HR5.out⟩, ⟨HX5.out.less (fun q hq => List.mem_cons_of_mem _ (List.mem_cons_of_mem _ hq))⟩⟩
          ·
           have e0 : ((n : Int) == 0) = false := beq_eq_false_iff_ne.2 (by omega)
           have HINS : Aside0 (insP qt l0_0 ⟨(n : Int), xa, xb⟩ = [rowW n] ++ ((if rowA n = 0 then [] else [decS xa]) ++ (if rowB n = 0 then [] else [decS xb]))) := ⟨by
            unfold insP argP
            rw [if_neg (by show ¬(n : Int) = 0; omega)]
            rfl⟩
           have r1 : wc.cell? ⟨br, 1, none⟩ = some (.int .u8 (rowA n)) := (HX3.out.cell _ List.mem_cons_self 1).trans rfl
           have r2 : wc.cell? ⟨br, 2, none⟩ = some (.int .u8 (rowB n)) := (HX3.out.cell _ List.mem_cons_self 2).trans rfl
           have x2 : wc.cell? ⟨bx, 2, none⟩ = some (.int .i64 xb) := (HX3.out.cell _ (List.mem_cons_of_mem _ List.mem_cons_self) 2).trans rfl
           clear hn0
           by_cases ha : rowA n = 0
           ·
            have ea : (rowA n != 0) = false := by rw [ha]; rfl
            by_cases hb0 : rowB n = 0
            ·
             have eb : (rowB n != 0) = false := by rw [hb0]; rfl
             have HE : Aside0 (insP qt l0_0 ⟨(n : Int), xa, xb⟩ = [rowW n]) := ⟨by rw [HINS.out]; simp [ha, hb0]⟩
             clear ha hb0
             go_wp2_with fail
             go_meet
             case rel => exact ⟨_, _, by rw [HE.out]; rfl, ⟨by rw [HE.out]; exact HR3.out⟩, ⟨HX3.out.less (fun q hq => List.mem_cons_of_mem _ (List.mem_cons_of_mem _ hq))⟩⟩
            ·
             have eb : (rowB n != 0) = true := bne_iff_ne.2 hb0
             have HE : Aside0 (insP qt l0_0 ⟨(n : Int), xa, xb⟩ = [rowW n] ++ [decS xb]) := ⟨by rw [HINS.out]; simp [ha, hb0]⟩
             clear ha hb0
             go_wp2_with (first
              | (go_at_call 23; go_loud (refine (dec_calls _ _ (HPW.out.below HX3.out.b0 trivial) HGI.out.2.2.2.1).mono ?_; rintro e w7 ⟨rfl, hb⟩; have HX4 := amZ (HX3.out.below hb); have HR4 := amZ (Kd.R_below HR3.out hb); clear hb))
              | (at_builtin; go_loud (refine str_append HX4.out HR4.out (by simp) rfl (.tmp 92) (.tmp 97) (decS xb) rfl rfl rfl ?_; intro A4 c4 w8 hr4 hl4; have HR5 := amZ hr4; have HX5 := amZ hl4; clear hr4 hl4)))
             go_meet
             case rel => exact ⟨_, _, by rw [HE.out]; rfl, ⟨by rw [HE.out]; exact HR5.out⟩, ⟨HX5.out.less (fun q hq => List.mem_cons_of_mem _ (List.mem_cons_of_mem _ hq))⟩⟩
           ·
            have ea : (rowA n != 0) = true := bne_iff_ne.2 ha
            by_cases hb0 : rowB n = 0
            ·
             have eb : (rowB n != 0) = false := by rw [hb0]; rfl
             have HE : Aside0 (insP qt l0_0 ⟨(n : Int), xa, xb⟩ = [rowW n] ++ [decS xa]) := ⟨by rw [HINS.out]; simp [ha, hb0]⟩
             clear ha hb0
             go_wp2_with (first
              | (go_at_call 23; go_loud (refine (dec_calls _ _ (HPW.out.below HX3.out.b0 trivial) HGI.out.2.2.1).mono ?_; rintro e w7 ⟨rfl, hb⟩; have HX4 := amZ (HX3.out.below hb); have HR4 := amZ (Kd.R_below HR3.out hb); clear hb))
              | (at_builtin; go_loud (refine str_append HX4.out HR4.out (by simp) rfl (.tmp 82) (.tmp 87) (decS xa) rfl rfl rfl ?_; intro A4 c4 w8 hr4 hl4; have HR5 := amZ hr4; have HX5 := amZ hl4; clear hr4 hl4; have r2 : w8.cell? ⟨br, 2, none⟩ = some (.int .u8 (rowB n)) := (HX5.out.cell _ List.mem_cons_self 2).trans rfl; have x2 : w8.cell? ⟨bx, 2, none⟩ = some (.int .i64 xb) := (HX5.out.cell _ (List.mem_cons_of_mem _ List.mem_cons_self) 2).trans rfl)))
             go_meet
             case rel => exact ⟨_, _, by rw [HE.out]; rfl, ⟨by rw [HE.out]; exact HR5.out⟩, ⟨HX5.out.less (fun q hq => List.mem_cons_of_mem _ (List.mem_cons_of_mem _ hq))⟩⟩
            ·
             have eb : (rowB n != 0) = true := bne_iff_ne.2 hb0
             have HE : Aside0 (insP qt l0_0 ⟨(n : Int), xa, xb⟩ = ([rowW n] ++ [decS xa]) ++ [decS xb]) := ⟨by rw [HINS.out]; simp [ha, hb0]⟩
             clear ha hb0
             go_wp2_with (first
              | (go_at_call 23; go_loud (refine (dec_calls _ _ (HPW.out.below HX3.out.b0 trivial) HGI.out.2.2.1).mono ?_; rintro e w7 ⟨rfl, hb⟩; have HX4 := amZ (HX3.out.below hb); have HR4 := amZ (Kd.R_below HR3.out hb); clear hb))
              | (at_builtin; go_loud (refine str_append HX4.out HR4.out (by simp) rfl (.tmp 82) (.tmp 87) (decS xa) rfl rfl rfl ?_; intro A4 c4 w8 hr4 hl4; have HR5 := amZ hr4; have HX5 := amZ hl4; clear hr4 hl4; have r2 : w8.cell? ⟨br, 2, none⟩ = some (.int .u8 (rowB n)) := (HX5.out.cell _ List.mem_cons_self 2).trans rfl; have x2 : w8.cell? ⟨bx, 2, none⟩ = some (.int .i64 xb) := (HX5.out.cell _ (List.mem_cons_of_mem _ List.mem_cons_self) 2).trans rfl))
              | (go_at_call 23; go_loud (refine (dec_calls _ _ (HPW.out.below HX5.out.b0 trivial) HGI.out.2.2.2.1).mono ?_; rintro e w9 ⟨rfl, hb⟩; have HX6 := amZ (HX5.out.below hb); have HR6 := amZ (Kd.R_below HR5.out hb); clear hb))
              | (at_builtin; go_loud (refine str_append (A0 := A4) (c0 := c4) (ps := [rowW n] ++ [decS xa]) HX6.out HR6.out (by simp) rfl (.tmp 92) (.tmp 97) (decS xb) rfl rfl rfl ?_; intro A5 c5 w10 hr4 hl4; have HR7 := amZ hr4; have HX7 := amZ hl4; clear hr4 hl4)))
             go_meet
             case rel => exact ⟨_, _, by rw [HE.out]; rfl, ⟨by rw [HE.out]; exact HR7.out⟩, ⟨HX7.out.less (fun q hq => List.mem_cons_of_mem _ (List.mem_cons_of_mem _ hq))⟩⟩
         case rest =>
          clear HX3 HR3 x0 x1 y0
          obtain ⟨A16, c16, rfl, HR, HX⟩ := hcut
          have HJ2 : Aside0 (IntOK (i2 : Int)) := ⟨by have := HGF.out.2.2.2.1; have := HLT2.out; unfold IntOK; omega⟩
          have hz0 := decS_size HJ2.out
          have hz : 2 + (decS (i2 : Int)).size ≤ 9223372036854775807 := by omega
          have hz1 : decide (2 + (decS (i2 : Int)).size ≤ 9223372036854775807) = true := decide_eq_true hz
          have hz2 : (9223372036854775807 < 2 + (decS (i2 : Int)).size) = False := eq_false (Nat.not_lt.2 hz)
          replace hz := eq_true hz
          clear hz0
          have HIL : Aside0 ((insP qt l0_0 ⟨(n : Int), xa, xb⟩).length ≤ 3) := ⟨by unfold insP argP; repeat' split <;> simp⟩
          have HLL : Aside0 (d2.length + (lineL ((⟨#[32, 32]⟩ : ByteArray) ++ decS (i2 : Int)) (insP qt l0_0 ⟨(n : Int), xa, xb⟩)).length ≤ 100000000000) := ⟨by have h1 := congrArg List.length HI2N.out; have h2 := HGP.out.t; unfold insL at h1; simp only [List.length_append] at h1; omega⟩
          go_wp2_with (first
           | (go_at_call 23; go_loud (refine (dec_calls _ _ (HPW.out.below HX.out.b0 trivial) HJ2.out).mono ?_; rintro e w7 ⟨rfl, hb⟩; have HX4 := amZ (HX.out.below hb); have HR4 := amZ (Kd.R_below HR.out hb); clear hb))
           | (go_at_call 21; go_loud (refine (line_calls b d2 _ (insP qt l0_0 ⟨(n : Int), xa, xb⟩) A16 c16 _ HX4.out.d HR4.out HLL.out (by have := HIL.out; omega)).mono ?_; rintro e w8 ⟨rfl, hd, hb, ho⟩; have HX5 := amZ (HX4.out.line hd hb ho); clear hd hb ho)))
          go_roundg (f3.length - (i2 + 1))
          case measure => have := hi2.out; have := HLT2.out; omega
          case rel => exact ⟨i2 + 1, _, i64_next HLT2.out (by have := HGF.out.2.2.2.1; omega), ⟨by have := HLT2.out; omega⟩, ⟨by rw [List.append_assoc]; exact HI2N.out⟩, HX5⟩
        ·
         have dl2 : decide ((i2 : Int) < (f3.length : Int)) = false := decide_eq_false (by omega)
         have dn2 : decide (i2 < f3.length) = false := decide_eq_false hlt2
         have HD2 : Aside0 (d2 ++ listL qt l0_0 (j + 1) (l0_1.drop (j + 1)) = listL qt l0_0 0 l0_1) := ⟨by have := hdn.out; rw [List.drop_eq_nil_of_le (by omega)] at this; exact this⟩
         clear hdn
         go_wp2_with fail
         go_roundg (l0_1.length - (j + 1))
         case measure => have := hj.out; have := HLT.out; omega
         case rel => exact ⟨j + 1, d2, i64_next HLT.out (by have := HGP.out.n; omega), ⟨by have := HLT.out; omega⟩, HD2, ⟨HX.out.less (fun q hq => by rw [HK.out]; exact List.mem_cons_of_mem _ hq)⟩⟩
   ·
    have dl : decide ((j : Int) < (l0_1.length : Int)) = false := decide_eq_false (by omega)
    have dn : decide (j < l0_1.length) = false := decide_eq_false hlt
    have hde : done = listL qt l0_0 0 l0_1 := by have := hi.out; rw [List.drop_eq_nil_of_le (by omega)] at this; simpa [listL] using this
    have HDE := amZ hde
    have kb := fun W => print_bytes (P := Tryd.prog) 9 27 5 Tryd.underlying9 Tryd.underlying27 Tryd.underlying5 (strOfNums done) W
    clear hde hi hlt
    go_wp2_with (go_at_call 27; go_loud (refine (str_calls b done _ HL.out.d (by rw [HDE.out]; exact HGP.out.b)).mono ?_; rintro e w6 ⟨rfl, hb⟩; have HB6 := amZ (HL.out.b0.trans (hb.mono HL.out.hb)); clear hb))
    go_ret
    have hs := strOfNums_size done
    have hf : impl_ListProgram.f qt l0_0 l0_1 true = done := by unfold impl_ListProgram.f; rw [if_pos rfl, HDE.out]
    rw [hf]
    refine ⟨_, _, by rw [← hs]; rfl, Bw.conv w6 w.heap.size HB6.out.size (by rw [HDE.out]; exact HGP.out.b) (by rw [HDE.out]; exact HGP.out.t), bytes_below HB6.out HB6.out.size 5 _⟩
end Go.Proofs.YtmmpiojekgfdjaaDoor.C
