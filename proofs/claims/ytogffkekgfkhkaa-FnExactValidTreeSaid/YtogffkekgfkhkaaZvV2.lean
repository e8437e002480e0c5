/- Lists of questions. -/
import Derived.Test.YtogffkekgfkhkaaZvV1
import Derived.Test.YtogffkekgfkhkaaZvK
namespace Go.Proofs.Ytogffkekgfkhkaa.C
open Go.RowKit Go.Proofs.YtogffkekgfkhkaaW.PrintWords Go.Proofs.YtogffkekgfkhkaaW.PrintLast Go.Proofs.YtogffkekgfkhkaaW.PrintMore
set_option linter.unusedVariables false
set_option linter.unusedSimpArgs false
abbrev Ents (g : Nat) : Prop := ∀ args w, (callFunc g args).run Try.prog w = .ok (.enter g args) w
/-- The function value g, with lb, answers p of a node's kind. -/
def AskAt (d : Kd NV) (w : World) (g : Nat) (lb : Array Value) (p : Int → Bool) : Prop :=
  ∀ W b h k, Below w.heap.size w W → NodeAt d W b h k → Calls Try.prog g (#[nv b] ++ lb) W fun e w' => e = .returned (.bool (p h.f0)) ∧ Below W.heap.size W w'
theorem AskAt.below {d : Kd NV} {w w1 : World} {g : Nat} {lb : Array Value} {p : Int → Bool} (h : AskAt d w g lb p) (hb : Below w.heap.size w w1) : AskAt d w1 g lb p :=
  fun W b x k hW hN => h W b x k (below_step hb hW) hN
theorem ents44 : Ents 44 := enters_of Try.func44 (by kernel_rfl) rfl
theorem ents52 : Ents 52 := enters_of Try.func52 (by kernel_rfl) rfl
theorem ents41 : Ents 41 := enters_of Try.func41 (by kernel_rfl) rfl
theorem askExpr (d : Kd NV) (w : World) : AskAt d w 44 #[] isExprB := fun W b h k hW hN => (isExpr_calls b W h.f0 hN.c0).mono fun e w' ⟨he, hw⟩ => ⟨he, hw ▸ Below.refl _ _⟩
theorem askKind {d : Kd NV} {w : World} {B : Nat} {ks : List Int} (hB : KindBox w B ks) : AskAt d w 52 #[pv B] (fun f0 => ks.any fun y => f0 == y) := fun W b h k hW hN => isKind1_calls B b ks h.f0 W (hB.below hW) hN.c0
set_option maxHeartbeats 8000000 in
set_option maxRecDepth 100000 in
theorem indexFunc_calls {d : Kd NV} (hd : NKd d) (g : Nat) (lb : Array Value) (p : Int → Bool) (eg : Ents g) (A0 : Option Addr) (c0 : Nat) (ts : List (NV × Fo)) (w : World) (hr0 : (kn d).C w A0 ts.length ts) (ha : AskAt d w g lb p) :
    Calls Try.prog 51 #[.slice A0 ts.length c0, fnv g lb] w fun e w' => e = .returned (.int .i64 (idxP (fun t : NV × Fo => p t.1.f0) ts 0)) ∧ Below w.heap.size w w' := by
  have HM := Aside0.mk (hr0.2.1)
  have HR0 := Aside0.mk hr0
  have HA := Aside0.mk ha
  have HD := Aside0.mk hd
  clear hr0 ha hd
  go_enter Try.func51, Try.ntmps51
  go_wp2
  go_loopg [8, 5] ts.length (fun g v8 v5 wr => ∃ (j : Nat), v8 = .int .i64 (j : Int) ∧ Aside0 (j + g = ts.length) ∧ Aside0 (idxP (fun t : NV × Fo => p t.1.f0) (ts.drop j) j = idxP (fun t : NV × Fo => p t.1.f0) ts 0) ∧ Aside0 (Below w.heap.size w wr))
  case atStart => exact ⟨0, rfl, ⟨by omega⟩, ⟨by simp⟩, ⟨Below.refl _ _⟩⟩
  case round =>
    obtain ⟨j, rfl, hj, hi, HB⟩ := hrel
    by_cases hlt : j < ts.length
    · obtain ⟨ad, b, e, hx0, hN⟩ := kn_at HD.out (Kd.C_below HR0.out HB.out) j hlt
      cases e
      obtain ⟨t, ht⟩ : ∃ t, t = ts[j] := ⟨_, rfl⟩
      rw [← ht] at hN
      have HI : Aside0 ((if (p t.1.f0) = true then (j : Int) else idxP (fun t : NV × Fo => p t.1.f0) (ts.drop (j + 1)) (j + 1)) = idxP (fun t : NV × Fo => p t.1.f0) ts 0) := ⟨by have := hi.out; rw [List.drop_eq_getElem_cons hlt, ← ht] at this; exact this⟩
      clear ht hi
      have HN := Aside0.mk hN
      clear hN
      have p0 : (0 ≤ (j : Int)) = True := eq_true (by omega)
      have q0 : ((j : Int) < (ts.length : Int)) = True := eq_true (by omega)
      have hdl : decide ((j : Int) < (ts.length : Int)) = true := decide_eq_true (by omega)
      have hdn : decide (j < ts.length) = true := decide_eq_true hlt
      have HL := Aside0.mk hlt
      clear hlt
      have HC := Aside0.mk (HA.out _ b t.1 t.2 HB.out HN.out)
      cases hb : p t.1.f0 with
      | true =>
        have HI2 := HI.out
        rw [hb, if_pos rfl] at HI2
        have HJ := Aside0.mk HI2
        have HC2 := HC.out
        rw [hb] at HC2
        have HC3 := Aside0.mk HC2
        clear HI HI2 HC HC2 hb
        go_wp2_with (go_at_fn g; refine HC3.out.mono ?_; rintro e w1 ⟨rfl, hb1⟩; have HB1 := Aside0.mk (below_step HB.out hb1); clear hb1)
        go_ret
        exact ⟨ret_i64 HJ.out, HB1.out⟩
      | false =>
        have HI2 := HI.out
        rw [hb, if_neg (by simp)] at HI2
        have HJ := Aside0.mk HI2
        have HC2 := HC.out
        rw [hb] at HC2
        have HC3 := Aside0.mk HC2
        clear HI HI2 HC HC2 hb
        go_wp2_with (go_at_fn g; refine HC3.out.mono ?_; rintro e w1 ⟨rfl, hb1⟩; have HB1 := Aside0.mk (below_step HB.out hb1); clear hb1)
        go_roundg (ts.length - (j + 1))
        case measure => have := hj.out; have := HL.out; omega
        case rel => exact ⟨j + 1, i64_next HL.out HM.out, ⟨by have := HL.out; omega⟩, HJ, HB1⟩
    · have e0 : (ts.drop j) = [] := List.drop_eq_nil_of_le (by omega)
      have HJ : Aside0 (idxP (fun t : NV × Fo => p t.1.f0) ts 0 = -1) := ⟨by rw [← hi.out, e0]; rfl⟩
      have hdl : decide ((j : Int) < (ts.length : Int)) = false := decide_eq_false (by omega)
      have hdn : decide (j < ts.length) = false := decide_eq_false hlt
      clear e0 hi hlt
      go_wp2
      go_ret
      exact ⟨ret_i64 HJ.out.symm, HB.out⟩
set_option maxHeartbeats 4000000 in
theorem containsFunc_calls {d : Kd NV} (hd : NKd d) (g : Nat) (lb : Array Value) (p : Int → Bool) (eg : Ents g) (A0 : Option Addr) (c0 : Nat) (ts : List (NV × Fo)) (w : World) (hr0 : (kn d).C w A0 ts.length ts) (ha : AskAt d w g lb p) :
    Calls Try.prog 40 #[.slice A0 ts.length c0, fnv g lb] w fun e w' => e = .returned (.bool (ts.any fun t : NV × Fo => p t.1.f0)) ∧ Below w.heap.size w w' := by
  rw [← idxP_dec]
  have HR0 := Aside0.mk hr0
  have HA := Aside0.mk ha
  clear hr0 ha
  go_enter Try.func40, Try.ntmps40
  go_wp2_with (go_at_call 51; refine (indexFunc_calls hd g lb p eg A0 c0 ts _ HR0.out HA.out).mono ?_; rintro e w1 ⟨rfl, hb1⟩; have HB1 := Aside0.mk hb1; clear hb1)
  go_ret
  exact ⟨rfl, HB1.out⟩
set_option maxHeartbeats 4000000 in
theorem askNot {d : Kd NV} {w : World} {g B : Nat} {lb : Array Value} {p : Int → Bool} (eg : Ents g) (hB : w.cell? ⟨B, 0, none⟩ = some (fnv g lb)) (ha : AskAt d w g lb p) : AskAt d w 41 #[pv B] (fun k => !p k) := by
  intro W b h k hW hN
  have HC := Aside0.mk (ha W b h k hW hN)
  have hc := (hW.cell (World.block_lt_of_cell? w _ hB)).trans hB
  clear hB ha hN
  show Calls Try.prog 41 #[nv b, pv B] W _
  go_enter Try.func41, Try.ntmps41
  go_wp2_with (go_at_fn g; refine HC.out.mono ?_; rintro e w1 ⟨rfl, hb1⟩; have HB1 := Aside0.mk hb1; clear hb1)
  go_ret
  exact ⟨rfl, HB1.out⟩
set_option maxHeartbeats 4000000 in
theorem every_calls {d : Kd NV} (hd : NKd d) (g : Nat) (lb : Array Value) (p : Int → Bool) (eg : Ents g) (A0 : Option Addr) (c0 : Nat) (ts : List (NV × Fo)) (w : World) (hr0 : (kn d).C w A0 ts.length ts) (ha : AskAt d w g lb p) :
    Calls Try.prog 39 #[.slice A0 ts.length c0, fnv g lb] w fun e w' => e = .returned (.bool (ts.all fun t : NV × Fo => p t.1.f0)) ∧ Below w.heap.size w w' := by
  have HR0 := Aside0.mk hr0
  have HA := Aside0.mk ha
  have e : (ts.all fun t : NV × Fo => p t.1.f0) = !(ts.any fun t : NV × Fo => !p t.1.f0) := List.all_eq_not_any_not
  rw [e]
  clear hr0 ha e
  have eg41 := ents41
  go_enter Try.func39, Try.ntmps39
  have HB0 : Aside0 (Below w.heap.size w (w.alloc (.cells #[fnv g lb] 59))) := ⟨(Below.refl _ _).alloc (Nat.le_refl _) _⟩
  have HX : Aside0 ((w.alloc (.cells #[fnv g lb] 59)).cell? ⟨w.heap.size, 0, none⟩ = some (fnv g lb)) := ⟨(blk_cell (heap_alloc_new w _) 0).trans rfl⟩
  go_wp2_with (go_at_call 40; refine (containsFunc_calls hd 41 #[pv w.heap.size] _ ents41 A0 c0 ts _ (Kd.C_below HR0.out HB0.out) (askNot eg HX.out (HA.out.below HB0.out))).mono ?_; rintro e w1 ⟨rfl, hb1⟩; have HB1 := Aside0.mk (below_step HB0.out hb1); clear hb1)
  go_ret
  exact ⟨rfl, HB1.out⟩
/-- a question: a function value and what it answers -/
structure Ask where
  g : Nat
  lb : Array Value
  p : Int → Bool
abbrev Ask.v (a : Ask) : Value := fnv a.g a.lb
def Ask.ok (d : Kd NV) (w : World) (a : Ask) : Prop := AskAt d w a.g a.lb a.p ∧ Ents a.g
def AskRow (w : World) (aq : Addr) (qs : List Ask) : Prop := ∀ i, (h : i < qs.length) → w.cell? (aq.add i) = some qs[i].v
def pairs : List Ask → List (NV × Fo) → Bool
  | [], _ => true
  | a :: qs, t :: ts => a.p t.1.f0 && pairs qs ts
  | _ :: _, [] => false
set_option maxHeartbeats 8000000 in
set_option maxRecDepth 100000 in
theorem are_calls {d : Kd NV} (hd : NKd d) (qs : List Ask) (aq : Addr) (c : Nat) (B : Nat) (A : Option Addr) (c0 : Nat) (ts : List (NV × Fo)) (w : World)
    (hB : w.cell? ⟨B, 0, none⟩ = some (.slice A ts.length c0)) (hr : (kn d).C w A ts.length ts) (hq : AskRow w aq qs) (ha : ∀ a ∈ qs, a.ok d w) (hs : qs.length ≤ 4) :
    Calls Try.prog 38 #[.slice (some aq) qs.length c, pv B] w fun e w' => e = .returned (.bool (decide (ts.length = qs.length) && pairs qs ts)) ∧ Below w.heap.size w w' := by
  have HR := Aside0.mk hr
  have HQ := Aside0.mk hq
  have HA := Aside0.mk ha
  have HD := Aside0.mk hd
  have HS := Aside0.mk hs
  have HBB := Aside0.mk hB
  by_cases hl : ts.length = qs.length
  · have e1 : decide (ts.length = qs.length) = true := decide_eq_true hl
    rw [e1, Bool.true_and]
    have HL := Aside0.mk hl
    have hc0 : (((ts.length : Nat) : Int) == ((qs.length : Nat) : Int)) = true := beq_iff_eq.mpr (by omega)
    have hc1 : (((ts.length : Nat) : Int) != ((qs.length : Nat) : Int)) = false := bne_eq_false_iff_eq.mpr (by omega)
    clear hl e1 hr hq ha hd hs
    go_enter Try.func38, Try.ntmps38
    go_wp2
    clear hB hc0 hc1
    go_loopg [13, 4, 5] qs.length (fun g v13 v4 v5 wr => ∃ (j : Nat), v13 = .int .i64 (j : Int) ∧ Aside0 (j + g = qs.length) ∧ Aside0 (pairs (qs.drop j) (ts.drop j) = pairs qs ts) ∧ Aside0 (Below w.heap.size w wr))
    case atStart => exact ⟨0, rfl, ⟨by omega⟩, ⟨by simp⟩, ⟨Below.refl _ _⟩⟩
    case round =>
      obtain ⟨j, rfl, hj, hi, HB⟩ := hrel
      by_cases hlt : j < qs.length
      · have hjt : j < ts.length := by have := HL.out; omega
        obtain ⟨ad, b, e, hx0, hN⟩ := kn_at HD.out (Kd.C_below HR.out HB.out) j hjt
        cases e
        have hq0 := (HB.out.cell (World.block_lt_of_cell? w _ (HQ.out j hlt))).trans (HQ.out j hlt)
        have hc := (HB.out.cell (World.block_lt_of_cell? w _ HBB.out)).trans HBB.out
        have hok := HA.out qs[j] (List.getElem_mem hlt)
        obtain ⟨a, hea⟩ : ∃ a, a = qs[j] := ⟨_, rfl⟩
        obtain ⟨t, ht⟩ : ∃ t, t = ts[j] := ⟨_, rfl⟩
        rw [← ht] at hN
        rw [← hea] at hq0 hok
        have HI : Aside0 ((a.p t.1.f0 && pairs (qs.drop (j + 1)) (ts.drop (j + 1))) = pairs qs ts) := ⟨by have := hi.out; rw [List.drop_eq_getElem_cons hlt, List.drop_eq_getElem_cons hjt, ← ht, ← hea] at this; exact this⟩
        clear ht hi hea
        obtain ⟨g, lb, p⟩ := a
        have eg := hok.2
        have HC := Aside0.mk (hok.1 _ b t.1 t.2 HB.out hN)
        clear hok hN
        have p0 : (0 ≤ (j : Int)) = True := eq_true (by omega)
        have q0 : ((j : Int) < (qs.length : Int)) = True := eq_true (by omega)
        have q1 : ((j : Int) < (ts.length : Int)) = True := eq_true (by omega)
        have hdl : decide ((j : Int) < (qs.length : Int)) = true := decide_eq_true (by omega)
        have hdn : decide (j < qs.length) = true := decide_eq_true hlt
        have hdt : decide (j < ts.length) = true := decide_eq_true hjt
        have HLT := Aside0.mk hlt
        clear hlt hjt
        cases hb : p t.1.f0 with
        | true =>
          have HI2 := HI.out
          have HC2 := HC.out
          simp only [hb] at HI2 HC2
          rw [Bool.true_and] at HI2
          have HJ := Aside0.mk HI2
          have HC3 := Aside0.mk HC2
          clear HI HI2 HC HC2 hb
          go_wp2_with (go_at_fn g; refine HC3.out.mono ?_; rintro e w1 ⟨rfl, hb1⟩; have HB1 := Aside0.mk (below_step HB.out hb1); clear hb1)
          go_roundg (qs.length - (j + 1))
          case measure => have := hj.out; have := HLT.out; omega
          case rel => exact ⟨j + 1, i64_next HLT.out (by have := HS.out; omega), ⟨by have := HLT.out; omega⟩, HJ, HB1⟩
        | false =>
          have HI2 := HI.out
          have HC2 := HC.out
          simp only [hb] at HI2 HC2
          rw [Bool.false_and] at HI2
          have HJ := Aside0.mk HI2
          have HC3 := Aside0.mk HC2
          clear HI HI2 HC HC2 hb
          go_wp2_with (go_at_fn g; refine HC3.out.mono ?_; rintro e w1 ⟨rfl, hb1⟩; have HB1 := Aside0.mk (below_step HB.out hb1); clear hb1)
          go_ret
          exact ⟨ret_bool HJ.out, HB1.out⟩
      · have e0 : (qs.drop j) = [] := List.drop_eq_nil_of_le (by omega)
        have HJ : Aside0 (pairs qs ts = true) := ⟨by rw [← hi.out, e0]; rfl⟩
        have hdl : decide ((j : Int) < (qs.length : Int)) = false := decide_eq_false (by omega)
        have hdn : decide (j < qs.length) = false := decide_eq_false hlt
        clear e0 hi hlt
        go_wp2
        go_ret
        exact ⟨ret_bool HJ.out.symm, HB.out⟩
  · have e1 : decide (ts.length = qs.length) = false := decide_eq_false hl
    rw [e1, Bool.false_and]
    have hc0 : (((ts.length : Nat) : Int) == ((qs.length : Nat) : Int)) = false := beq_eq_false_iff_ne.mpr (by omega)
    have hc1 : (((ts.length : Nat) : Int) != ((qs.length : Nat) : Int)) = true := bne_iff_ne.mpr (by omega)
    clear hl e1 hr hq ha hd hs
    go_enter Try.func38, Try.ntmps38
    go_wp2
    go_ret
    exact ⟨rfl, Below.refl _ _⟩
end Go.Proofs.Ytogffkekgfkhkaa.C
