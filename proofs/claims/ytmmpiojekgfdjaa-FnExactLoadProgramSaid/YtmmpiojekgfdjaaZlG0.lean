/- What is read from bytes, over lists. -/
import Derived.Test.YtmmpiojekgfdjaaZlV5
import Derived.Test.YtmmpiojekgfdjaaZlK
namespace Go.Proofs.Ytmmpiojekgfdjaa.C
open Go.RowKit YtmmpiojekgfdjaaW.PrintWords YtmmpiojekgfdjaaW.PrintLast
set_option linter.unusedVariables false
set_option linter.unusedSimpArgs false
structure Sound (cs : List S48) (ps : List S52) : Prop where
 n0 : 1 ≤ ps.length
 n1 : ps.length ≤ 500
 n2 : cs.length ≤ 20000
 cb : cs.any constBad = false
 pb : protosBad 0 ps = false
 sm : sumCode ps ≤ 20000
 ok : ∀ f ∈ ps, codeOK cs.length ps f f.f3 = true ∧ ghL f.f3 (3 * f.f3.length + 5) [] [(0, 0)] = some true
theorem codesOK_all {nc : Nat} {ps : List S52} : ∀ {fs : List S52}, codesOK nc ps fs = some true → ∀ f ∈ fs, codeOK nc ps f f.f3 = true ∧ ghL f.f3 (3 * f.f3.length + 5) [] [(0, 0)] = some true
 | [], _, f, h => by simp at h
 | g :: fs, h, f, hf => by
  rcases codesOK_cons h with ⟨_, h2⟩ | ⟨h1, z, hz, h2⟩
  ·
   cases h2
  ·
   rcases h2 with ⟨_, h3⟩ | ⟨h3, h4⟩
   ·
    cases h3
   ·
    subst h3
    rcases List.mem_cons.1 hf with rfl | hf
    ·
     exact ⟨h1, hz⟩
    ·
     exact codesOK_all h4 f hf
theorem sound_of {cs : List S48} {ps : List S52} (h : impl_Check.f cs ps = some true) : Sound cs ps := by
 unfold impl_Check.f at h
 split at h
 ·
  cases h
 split at h
 ·
  cases h
 rename_i h1
 split at h
 ·
  cases h
 rename_i h2
 split at h
 ·
  cases h
 rename_i h3
 split at h
 ·
  cases h
 rename_i h4
 exact ⟨by omega, by omega, by omega, by simpa using h2, by simpa using h3, by omega, codesOK_all h⟩
theorem Sound.cst {cs : List S48} {ps : List S52} (h : Sound cs ps) {c : S48} (hc : c ∈ cs) : c.f2.length ≤ 5000 ∧ (c.f0 = true → c.f1 = 0) ∧ (c.f0 = false → c.f2 = []) := by
 have := List.any_eq_false.1 h.cb c hc
 unfold constBad at this
 simp at this
 refine ⟨by omega, fun e => this.2.1 e, fun e => this.2.2 e⟩
theorem Sound.pro {cs : List S48} {ps : List S52} (h : Sound cs ps) {f : S52} (hf : f ∈ ps) :
  0 ≤ f.f0 ∧ f.f0 ≤ f.f1 ∧ f.f1 ≤ 200 ∧ f.f2.length ≤ 100 ∧ 0 < f.f3.length ∧ f.f3.length ≤ 20000 ∧ (∀ c ∈ f.f2, 0 ≤ c.f1 ∧ c.f1 < 200) ∧ ∀ x ∈ f.f3, FineIns f.f3.length x ∧ goodInsB x.f0 x.f1 x.f2 cs.length ps f.f1 f.f2.length f.f3.length = true := by
 have hb := protosBad_mem h.pb f hf
 unfold protoBad at hb
 simp at hb
 obtain ⟨b1, b2, b3, b4, b5, b6⟩ := hb
 have hs := sumCode_mem hf
 have hsm := h.sm
 have hpos : 0 < f.f3.length := List.length_pos_iff.2 b6
 refine ⟨by omega, by omega, by omega, by omega, hpos, by omega, fun c hc => ?_, fun x hx => ?_⟩
 ·
  have := b1 c hc
  unfold capBad at this
  simp at this
  omega
 ·
  have hg := (h.ok f hf).1
  unfold codeOK at hg
  have := List.all_eq_true.1 hg x hx
  exact ⟨fine_of_good this h.n2 h.n1 (by omega) (by omega) (by omega) (by omega), this⟩
theorem flatMap_len {α : Type} {f : α → List Int} {k : Nat} : ∀ {l : List α}, (∀ x ∈ l, (f x).length ≤ k) → (l.flatMap f).length ≤ k * l.length
 | [], _ => by simp
 | x :: l, h => by
  have h1 := h x (by simp)
  have h2 := flatMap_len (l := l) (fun y hy => h y (by simp [hy]))
  rw [List.flatMap_cons, List.length_append, List.length_cons, Nat.mul_succ]
  omega
theorem Sound.save {cs : List S48} {ps : List S52} (h : Sound cs ps) : SaveOK cs ps := by
 have n1 := h.n1
 have n2 := h.n2
 have hc : ∀ c ∈ cs, (constB c).length ≤ 5100 := by
  intro c hc
  have := (h.cst hc).1
  have hv := varF_len 10 (c.f2.length : Int)
  unfold constB
  split
  ·
   simp; omega
  ·
   simp [eightB]
 have hp : ∀ f ∈ ps, (protoB f).length ≤ 500000 := by
  intro f hf
  obtain ⟨a1, a2, a3, a4, a5, a6, a7, a8⟩ := h.pro hf
  have v0 := varF_len 10 f.f0
  have v1 := varF_len 10 f.f1
  have v2 := varF_len 10 (f.f2.length : Int)
  have v3 := varF_len 10 (f.f3.length : Int)
  have e2 := flatMap_len (f := capB) (k := 11) (l := f.f2) (fun c _ => by have := varF_len 10 c.f1; simp [capB]; omega)
  have e3 := flatMap_len (f := insB) (k := 21) (l := f.f3) (fun x _ => by have := varF_len 10 x.f1; have := varF_len 10 x.f2; simp [insB]; omega)
  unfold protoB
  simp only [List.length_append]
  omega
 refine ⟨by omega, by omega, fun c hc => by have := (h.cst hc).1; omega, fun f hf => ?_, ?_⟩
 ·
  obtain ⟨a1, a2, a3, a4, a5, a6, a7, a8⟩ := h.pro hf
  refine ⟨⟨a1, by omega⟩, ⟨by omega, by omega⟩, by omega, by omega, fun c hc => ?_, fun x hx => ?_⟩
  ·
   have := a7 c hc; exact ⟨by omega, by omega⟩
  ·
   obtain ⟨_, _, b3, b4, b5, b6, _⟩ := (a8 x hx).1; exact ⟨⟨b3, by omega⟩, ⟨b5, by omega⟩⟩
 ·
  have e1 := flatMap_len hc
  have e2 := flatMap_len hp
  have v1 := varF_len 10 (cs.length : Int)
  have v2 := varF_len 10 (ps.length : Int)
  unfold saveL restB
  simp only [List.length_append, List.length_cons, List.length_nil]
  omega
abbrev Rs := List Int × Bool
def ldByte (s : Rs) : Int × Rs := match s.1 with | [] => (0, ([], true)) | c :: t => (c, (t, s.2))
def ldFlag (s : Rs) : Bool × Rs := (decide ((ldByte s).1 = 1), ((ldByte s).2.1, (ldByte s).2.2 || decide (1 < (ldByte s).1)))
def ldNumG : Nat → Int → Int → Rs → Int × Rs
 | 0, _, _, s => (0, (s.1, true))
 | n + 1, sc, v, s =>
  if (ldByte s).1 < 128 then (v + (ldByte s).1 % 128 * sc, ((ldByte s).2.1, (ldByte s).2.2 || (decide ((ldByte s).1 = 0) && decide (1 < sc))))
  else ldNumG n (sc * 128) (v + (ldByte s).1 % 128 * sc) (ldByte s).2
def ldNum (s : Rs) : Int × Rs := ldNumG 9 1 0 s
def ldCount (s : Rs) : Int × Rs := if ((ldNum s).2.1.length : Int) < (ldNum s).1 then (0, ((ldNum s).2.1, true)) else ldNum s
def ldMany {α : Type} (f : Rs → α × Rs) : Nat → Rs → List α × Rs
 | 0, s => ([], s)
 | n + 1, s => ((f s).1 :: (ldMany f n (f s).2).1, (ldMany f n (f s).2).2)
def ldEight : Nat → Int → Int → Rs → Int × Rs
 | 0, _, u, s => (u, s)
 | n + 1, sc, u, s => ldEight n (sc * 256) (u + (ldByte s).1 * sc) (ldByte s).2
def ldText (s : Rs) : List Int × Rs := ((ldCount s).2.1.take (ldCount s).1.toNat, ((ldCount s).2.1.drop (ldCount s).1.toNat, (ldCount s).2.2))
def ldConst (s : Rs) : S48 × Rs :=
 if (ldFlag s).1 = true then (⟨true, 0, (ldText (ldFlag s).2).1⟩, (ldText (ldFlag s).2).2)
 else (⟨false, IntKind.i64.wrap (ldEight 8 1 0 (ldFlag s).2).1, []⟩, (ldEight 8 1 0 (ldFlag s).2).2)
def ldCap (s : Rs) : S54 × Rs := (⟨(ldFlag s).1, (ldNum (ldFlag s).2).1⟩, (ldNum (ldFlag s).2).2)
def ldIns (s : Rs) : S57 × Rs := (⟨(ldByte s).1, (ldNum (ldByte s).2).1, (ldNum (ldNum (ldByte s).2).2).1⟩, (ldNum (ldNum (ldByte s).2).2).2)
def ldRow {α : Type} (f : Rs → α × Rs) (s : Rs) : List α × Rs := ldMany f (ldCount s).1.toNat (ldCount s).2
def ldProto (s : Rs) : S52 × Rs :=
 (⟨(ldNum s).1, (ldNum (ldNum s).2).1, (ldRow ldCap (ldNum (ldNum s).2).2).1, (ldRow ldIns (ldRow ldCap (ldNum (ldNum s).2).2).2).1⟩, (ldRow ldIns (ldRow ldCap (ldNum (ldNum s).2).2).2).2)
def ldIs : List Int → Rs → Rs
 | [], s => s
 | c :: cs, s => ldIs cs ((ldByte s).2.1, (ldByte s).2.2 || decide ((ldByte s).1 ≠ c))
def ldEnd (s : Rs) : Rs := (s.1, s.2 || decide (s.1 ≠ []))
def ldProg (s : Rs) : (List S48 × List S52) × Rs :=
 (((ldRow ldConst (ldIs [77, 78, 76, 84] s)).1, (ldRow ldProto (ldRow ldConst (ldIs [77, 78, 76, 84] s)).2).1), ldEnd (ldRow ldProto (ldRow ldConst (ldIs [77, 78, 76, 84] s)).2).2)
def sNumG : Nat → Int → Int → Rs → Int × Rs
 | 0, _, _, s => (0, (s.1, true))
 | n + 1, sc, v, s => if (ldByte s).1 < 128 then (v + (ldByte s).1 % 128 * sc, (ldByte s).2) else sNumG n (sc * 128) (v + (ldByte s).1 % 128 * sc) (ldByte s).2
def sNum (s : Rs) : Int × Rs := sNumG 3 1 0 s
def sMany {α : Type} (f : Rs → α × Rs) : Nat → Rs → List α × Rs
 | 0, s => ([], s)
 | n + 1, s => if s.2 = true then ([], s) else ((f s).1 :: (sMany f n (f s).2).1, (sMany f n (f s).2).2)
def sRow {α : Type} (f : Rs → α × Rs) (s : Rs) : List α × Rs := sMany f (sNum s).1.toNat (sNum s).2
def sConst (s : Rs) : S48 × Rs :=
 if (ldByte s).1 = 1 then (⟨true, 0, (sRow ldByte (ldByte s).2).1⟩, (sRow ldByte (ldByte s).2).2)
 else (⟨false, IntKind.i64.wrap (ldEight 8 1 0 (ldByte s).2).1, []⟩, (ldEight 8 1 0 (ldByte s).2).2)
def sCap (s : Rs) : S54 × Rs := (⟨decide ((ldByte s).1 = 1), (sNum (ldByte s).2).1⟩, (sNum (ldByte s).2).2)
def sIns (s : Rs) : S57 × Rs := (⟨(ldByte s).1, (sNum (ldByte s).2).1, (sNum (sNum (ldByte s).2).2).1⟩, (sNum (sNum (ldByte s).2).2).2)
def sProto (s : Rs) : S52 × Rs :=
 (⟨(sNum s).1, (sNum (sNum s).2).1, (sRow sCap (sNum (sNum s).2).2).1, (sRow sIns (sRow sCap (sNum (sNum s).2).2).2).1⟩, (sRow sIns (sRow sCap (sNum (sNum s).2).2).2).2)
def sProg (s : Rs) : (List S48 × List S52) × Rs := (((sRow sConst s).1, (sRow sProto (sRow sConst s).2).1), (sRow sProto (sRow sConst s).2).2)
def Byt (l : List Int) : Prop := ∀ c ∈ l, 0 ≤ c ∧ c < 256
theorem Byt.right {a b l : List Int} (h : Byt l) (e : l = a ++ b) : Byt b := fun c hc => h c (by rw [e]; simp [hc])
def Inv {α : Type} (f : Rs → α × Rs) (enc : α → List Int) : Prop := ∀ s : Rs, Byt s.1 → (f s).2.2 = false → s.2 = false ∧ s.1 = enc (f s).1 ++ (f s).2.1
theorem ldByte_inv : Inv ldByte fun c => [c] := by
 rintro ⟨l, e⟩ _ h
 cases l with
 | nil => simp [ldByte] at h
 | cons c t => exact ⟨h, rfl⟩
theorem tI_one {c : Int} (h0 : 0 ≤ c) (h1 : ¬ 1 < c) : tI (decide (c = 1)) = c := by
 unfold tI
 by_cases e : c = 1
 ·
  simp [e]
 ·
  simp [e]; omega
theorem ldFlag_inv : Inv ldFlag fun b => [tI b] := by
 rintro s hb h
 unfold ldFlag at *
 simp only [Bool.or_eq_false_iff, decide_eq_false_iff_not] at h
 obtain ⟨h1, h2⟩ := ldByte_inv s hb h.1
 refine ⟨h1, ?_⟩
 have hc := hb (ldByte s).1 (by rw [h2]; simp)
 show s.1 = [tI (decide ((ldByte s).1 = 1))] ++ (ldByte s).2.1
 rw [tI_one hc.1 h.2]
 exact h2
theorem ldNumG_inv : ∀ n m (sc v : Int) (s : Rs), n ≤ m → 1 ≤ sc → Byt s.1 → (ldNumG n sc v s).2.2 = false →
  s.2 = false ∧ ∃ y : Int, 0 ≤ y ∧ (ldNumG n sc v s).1 = v + y * sc ∧ s.1 = varF m y ++ (ldNumG n sc v s).2.1 ∧ (1 < sc → 1 ≤ y)
 | 0, m, sc, v, s, hm, h1, hb, h => by simp [ldNumG] at h
 | n + 1, 0, sc, v, s, hm, h1, hb, h => by omega
 | n + 1, m + 1, sc, v, s, hm, h1, hb, h => by
  unfold ldNumG at h ⊢
  by_cases c : (ldByte s).1 < 128
  ·
   rw [if_pos c] at h ⊢
   simp only [Bool.or_eq_false_iff, Bool.and_eq_false_iff, decide_eq_false_iff_not] at h
   obtain ⟨e1, e2⟩ := ldByte_inv s hb h.1
   have hc := hb (ldByte s).1 (by rw [e2]; simp)
   refine ⟨e1, (ldByte s).1, hc.1, ?_, ?_, ?_⟩
   ·
    rw [Int.emod_eq_of_lt hc.1 c]
   ·
    unfold varF
    rw [if_neg (by omega), Int.emod_eq_of_lt hc.1 (by omega)]
    exact e2
   ·
    intro hs
    rcases h.2 with h2 | h2
    ·
     omega
    ·
     omega
  ·
   rw [if_neg c] at h ⊢
   have hbt : Byt (ldByte s).2.1 := by
    rcases s with ⟨l, e⟩
    cases l with
    | nil => intro c hc; simp [ldByte] at hc
    | cons x t => exact fun c hc => hb c (by simp [ldByte] at hc; simp [hc])
   obtain ⟨e0, y, hy0, hy1, hy2, hy3⟩ := ldNumG_inv n m (sc * 128) (v + (ldByte s).1 % 128 * sc) (ldByte s).2 (by omega) (by omega) hbt h
   obtain ⟨e1, e2⟩ := ldByte_inv s hb e0
   have hc := hb (ldByte s).1 (by rw [e2]; simp)
   have hy4 := hy3 (by omega)
   refine ⟨e1, (ldByte s).1 % 128 + 128 * y, by omega, ?_, ?_, fun _ => by omega⟩
   ·
    rw [hy1, Int.add_mul, Int.mul_comm sc 128, Int.mul_comm 128 y, Int.mul_assoc, Int.add_assoc]
   ·
    rw [varF_big m _ (by omega)]
    have t1 : ((ldByte s).1 % 128 + 128 * y) % 128 + 128 = (ldByte s).1 := by omega
    have t2 : ((ldByte s).1 % 128 + 128 * y) / 128 = y := by omega
    rw [t1, t2, List.append_assoc, ← hy2]
    exact e2
theorem ldNum_inv : Inv ldNum (varF 10) := by
 intro s hb h
 obtain ⟨h1, y, h2, h3, h4, _⟩ := ldNumG_inv 9 10 1 0 s (by omega) (by omega) hb h
 refine ⟨h1, ?_⟩
 unfold ldNum
 rw [h3, show (0 : Int) + y * 1 = y by omega]
 exact h4
theorem ldNum_nonneg (s : Rs) (hb : Byt s.1) (h : (ldNum s).2.2 = false) : 0 ≤ (ldNum s).1 := by
 obtain ⟨h1, y, h2, h3, h4, _⟩ := ldNumG_inv 9 10 1 0 s (by omega) (by omega) hb h
 unfold ldNum
 rw [h3]
 omega
theorem ldCount_inv (s : Rs) (hb : Byt s.1) (h : (ldCount s).2.2 = false) : s.2 = false ∧ s.1 = varF 10 (((ldCount s).1.toNat : Nat) : Int) ++ (ldCount s).2.1 ∧ (ldCount s).1.toNat ≤ (ldCount s).2.1.length := by
 unfold ldCount at *
 split at h
 ·
  cases h
 ·
  rename_i c
  rw [if_neg c]
  have h0 := ldNum_nonneg s hb h
  obtain ⟨h1, h2⟩ := ldNum_inv s hb h
  refine ⟨h1, ?_, by omega⟩
  rw [Int.toNat_of_nonneg h0]
  exact h2
theorem ldMany_inv {α : Type} {f : Rs → α × Rs} {enc : α → List Int} (hf : Inv f enc) (hby : ∀ s : Rs, Byt s.1 → Byt (f s).2.1) : ∀ n, ∀ s : Rs, Byt s.1 → (ldMany f n s).2.2 = false → s.2 = false ∧ s.1 = (ldMany f n s).1.flatMap enc ++ (ldMany f n s).2.1 ∧ (ldMany f n s).1.length = n
 | 0, s, hb, h => ⟨h, rfl, rfl⟩
 | n + 1, s, hb, h => by
  have h' : (ldMany f n (f s).2).2.2 = false := h
  obtain ⟨a, b, c⟩ := ldMany_inv hf hby n (f s).2 (hby s hb) h'
  obtain ⟨d, e⟩ := hf s hb a
  refine ⟨d, ?_, by simp [ldMany, c]⟩
  show s.1 = (enc (f s).1 ++ (ldMany f n (f s).2).1.flatMap enc) ++ (ldMany f n (f s).2).2.1
  rw [List.append_assoc, ← b]
  exact e
def Keeps {α : Type} (f : Rs → α × Rs) : Prop := ∀ s : Rs, ∃ k, (f s).2.1 = s.1.drop k
theorem Keeps.byt {α : Type} {f : Rs → α × Rs} (h : Keeps f) (s : Rs) (hb : Byt s.1) : Byt (f s).2.1 := by
 obtain ⟨k, e⟩ := h s
 rw [e]
 exact fun c hc => hb c (List.mem_of_mem_drop hc)
theorem ldByte_keeps : Keeps ldByte := by
 rintro ⟨l, e⟩
 cases l with
 | nil => exact ⟨0, rfl⟩
 | cons c t => exact ⟨1, rfl⟩
theorem keeps_two {s : List Int} {k : Nat} {t : List Int} (h : ∃ j, t = (s.drop k).drop j) : ∃ j, t = s.drop j := by
 obtain ⟨j, e⟩ := h
 exact ⟨k + j, by rw [e, List.drop_drop]⟩
theorem ldNumG_keeps : ∀ n (sc v : Int), Keeps (ldNumG n sc v)
 | 0, sc, v, s => ⟨0, rfl⟩
 | n + 1, sc, v, s => by
  unfold ldNumG
  obtain ⟨k, e⟩ := ldByte_keeps s
  split
  ·
   exact ⟨k, e⟩
  ·
   exact keeps_two (k := k) (by rw [← e]; exact ldNumG_keeps n _ _ _)
theorem ldNum_keeps : Keeps ldNum := ldNumG_keeps 9 1 0
theorem ldCount_keeps : Keeps ldCount := by
 intro s
 unfold ldCount
 split
 ·
  exact ldNum_keeps s
 ·
  exact ldNum_keeps s
theorem ldFlag_keeps : Keeps ldFlag := fun s => ldByte_keeps s
theorem ldMany_keeps {α : Type} {f : Rs → α × Rs} (hf : Keeps f) : ∀ n, Keeps (ldMany f n)
 | 0, s => ⟨0, rfl⟩
 | n + 1, s => by
  obtain ⟨k, e⟩ := hf s
  exact keeps_two (k := k) (by rw [← e]; exact ldMany_keeps hf n _)
theorem ldRow_keeps {α : Type} {f : Rs → α × Rs} (hf : Keeps f) : Keeps (ldRow f) := by
 intro s
 obtain ⟨k, e⟩ := ldCount_keeps s
 exact keeps_two (k := k) (by rw [← e]; exact ldMany_keeps hf _ _)
theorem ldEight_keeps : ∀ n (sc u : Int), Keeps (ldEight n sc u)
 | 0, sc, u, s => ⟨0, rfl⟩
 | n + 1, sc, u, s => by
  obtain ⟨k, e⟩ := ldByte_keeps s
  exact keeps_two (k := k) (by rw [← e]; exact ldEight_keeps n _ _ _)
theorem ldText_keeps : Keeps ldText := by
 intro s
 obtain ⟨k, e⟩ := ldCount_keeps s
 exact keeps_two (k := k) (by rw [← e]; exact ⟨_, rfl⟩)
theorem ldConst_keeps : Keeps ldConst := by
 intro s
 unfold ldConst
 obtain ⟨k, e⟩ := ldFlag_keeps s
 split
 ·
  exact keeps_two (k := k) (by rw [← e]; exact ldText_keeps _)
 ·
  exact keeps_two (k := k) (by rw [← e]; exact ldEight_keeps _ _ _ _)
theorem ldCap_keeps : Keeps ldCap := by
 intro s
 obtain ⟨k, e⟩ := ldFlag_keeps s
 exact keeps_two (k := k) (by rw [← e]; exact ldNum_keeps _)
theorem ldIns_keeps : Keeps ldIns := by
 intro s
 obtain ⟨k, e⟩ := ldByte_keeps s
 refine keeps_two (k := k) ?_
 rw [← e]
 obtain ⟨k2, e2⟩ := ldNum_keeps (ldByte s).2
 exact keeps_two (k := k2) (by rw [← e2]; exact ldNum_keeps _)
theorem ldProto_keeps : Keeps ldProto := by
 intro s
 obtain ⟨k, e⟩ := ldNum_keeps s
 refine keeps_two (k := k) ?_
 rw [← e]
 obtain ⟨k2, e2⟩ := ldNum_keeps (ldNum s).2
 refine keeps_two (k := k2) ?_
 rw [← e2]
 obtain ⟨k3, e3⟩ := ldRow_keeps ldCap_keeps (ldNum (ldNum s).2).2
 refine keeps_two (k := k3) ?_
 rw [← e3]
 exact ldRow_keeps ldIns_keeps _
theorem ldRow_inv {α : Type} {f : Rs → α × Rs} {enc : α → List Int} (hf : Inv f enc) (hk : Keeps f) : Inv (ldRow f) fun xs => varF 10 (xs.length : Int) ++ xs.flatMap enc := by
 intro s hb h
 obtain ⟨a, b, c⟩ := ldMany_inv hf (fun s hb => hk.byt s hb) (ldCount s).1.toNat (ldCount s).2 (ldCount_keeps.byt s hb) h
 obtain ⟨d, e, g⟩ := ldCount_inv s hb a
 refine ⟨d, ?_⟩
 have c' : (ldRow f s).1.length = (ldCount s).1.toNat := c
 show s.1 = (varF 10 ((ldRow f s).1.length : Int) ++ (ldRow f s).1.flatMap enc) ++ (ldRow f s).2.1
 rw [c', List.append_assoc]
 rw [show (ldRow f s).1.flatMap enc ++ (ldRow f s).2.1 = (ldCount s).2.1 from b.symm]
 exact e
theorem ldEight_inv : ∀ n (sc u : Int) (s : Rs), Byt s.1 → (ldEight n sc u s).2.2 = false → s.2 = false ∧ ∃ bs : List Int, bs.length = n ∧ s.1 = bs ++ (ldEight n sc u s).2.1 ∧ ∃ x : Int, (ldEight n sc u s).1 = u + x * sc ∧ 0 ≤ x ∧ x < 256 ^ n ∧ ∀ i, (h : i < bs.length) → bs[i] = x / 256 ^ i % 256
 | 0, sc, u, s, hb, h => ⟨h, [], rfl, rfl, 0, by simp [ldEight], by omega, by simp, fun i h => by simp at h⟩
 | n + 1, sc, u, s, hb, h => by
  obtain ⟨a, bs, b1, b2, x, b3, b4, b5, b6⟩ := ldEight_inv n (sc * 256) (u + (ldByte s).1 * sc) (ldByte s).2 (ldByte_keeps.byt s hb) h
  obtain ⟨d, e⟩ := ldByte_inv s hb a
  have hc := hb (ldByte s).1 (by rw [e]; simp)
  refine ⟨d, (ldByte s).1 :: bs, by simp [b1], ?_, (ldByte s).1 + 256 * x, ?_, by omega, ?_, ?_⟩
  ·
   show s.1 = [(ldByte s).1] ++ (bs ++ (ldEight n (sc * 256) (u + (ldByte s).1 * sc) (ldByte s).2).2.1)
   rw [← b2]; exact e
  ·
   show (ldEight n (sc * 256) (u + (ldByte s).1 * sc) (ldByte s).2).1 = _
   rw [b3, Int.add_mul, Int.mul_comm sc 256, Int.mul_comm 256 x, Int.mul_assoc, Int.add_assoc]
  ·
   rw [Int.pow_succ]; omega
  ·
   intro i hi
   cases i with
   | zero => simp only [List.getElem_cons_zero, Int.pow_zero]; omega
   | succ i =>
    have hi' : i < bs.length := by simpa using hi
    rw [List.getElem_cons_succ, b6 i hi', Int.pow_succ, Int.mul_comm (256 ^ i) 256, ← Int.ediv_ediv_of_nonneg (by decide), show ((ldByte s).1 + 256 * x) / 256 = x by omega]
theorem wrap_back (x : Int) (h0 : 0 ≤ x) (h1 : x < 18446744073709551616) : IntKind.u64.wrap (IntKind.i64.wrap x) = x := by
 simp [IntKind.wrap, IntKind.bits, IntKind.signed]; omega
theorem ldEight_bytes (s : Rs) (hb : Byt s.1) (h : (ldEight 8 1 0 s).2.2 = false) : s.2 = false ∧ s.1 = eightB (IntKind.i64.wrap (ldEight 8 1 0 s).1) ++ (ldEight 8 1 0 s).2.1 := by
 obtain ⟨a, bs, b1, b2, x, b3, b4, b5, b6⟩ := ldEight_inv 8 1 0 s hb h
 refine ⟨a, ?_⟩
 have e : eightB (IntKind.i64.wrap (ldEight 8 1 0 s).1) = bs := by
  rw [b3, show (0 : Int) + x * 1 = x by omega]
  refine List.ext_getElem (by simp [eightB, b1]) fun i h1 h2 => ?_
  rw [b6 i h2]
  simp only [eightB, List.getElem_map, List.getElem_range]
  rw [wrap_back x b4 (by simpa using b5), Int.pow_mul]
  rfl
 rw [e]
 exact b2
theorem ldText_inv : Inv ldText fun y => varF 10 (y.length : Int) ++ y := by
 intro s hb h
 obtain ⟨d, e, g⟩ := ldCount_inv s hb h
 refine ⟨d, ?_⟩
 show s.1 = (varF 10 (((ldCount s).2.1.take (ldCount s).1.toNat).length : Int) ++ (ldCount s).2.1.take (ldCount s).1.toNat) ++ (ldCount s).2.1.drop (ldCount s).1.toNat
 rw [List.length_take, Nat.min_eq_left g, List.append_assoc, List.take_append_drop]
 exact e
theorem ldConst_inv : Inv ldConst constB := by
 intro s hb h
 unfold ldConst at *
 by_cases c : (ldFlag s).1 = true
 ·
  rw [if_pos c] at h ⊢
  obtain ⟨a, b⟩ := ldText_inv (ldFlag s).2 (ldFlag_keeps.byt s hb) h
  obtain ⟨d, e⟩ := ldFlag_inv s hb a
  refine ⟨d, ?_⟩
  rw [e, b, c]
  rfl
 ·
  rw [if_neg c] at h ⊢
  obtain ⟨a, b⟩ := ldEight_bytes (ldFlag s).2 (ldFlag_keeps.byt s hb) h
  obtain ⟨d, e⟩ := ldFlag_inv s hb a
  refine ⟨d, ?_⟩
  have c' : (ldFlag s).1 = false := by simpa using c
  rw [e, c']
  show 0 :: (ldFlag s).2.1 = 0 :: (eightB (IntKind.i64.wrap (ldEight 8 1 0 (ldFlag s).2).1) ++ (ldEight 8 1 0 (ldFlag s).2).2.1)
  rw [← b]
theorem ldCap_inv : Inv ldCap capB := by
 intro s hb h
 obtain ⟨a, b⟩ := ldNum_inv (ldFlag s).2 (ldFlag_keeps.byt s hb) h
 obtain ⟨d, e⟩ := ldFlag_inv s hb a
 refine ⟨d, ?_⟩
 rw [e, b]
 rfl
theorem ldIns_inv : Inv ldIns insB := by
 intro s hb h
 have k1 := ldByte_keeps.byt s hb
 obtain ⟨a, b⟩ := ldNum_inv (ldNum (ldByte s).2).2 (ldNum_keeps.byt _ k1) h
 obtain ⟨a2, b2⟩ := ldNum_inv (ldByte s).2 k1 a
 obtain ⟨d, e⟩ := ldByte_inv s hb a2
 refine ⟨d, ?_⟩
 have hc := hb (ldByte s).1 (by rw [e]; simp)
 show s.1 = (((ldByte s).1 % 256) :: (varF 10 (ldNum (ldByte s).2).1 ++ varF 10 (ldNum (ldNum (ldByte s).2).2).1)) ++ (ldNum (ldNum (ldByte s).2).2).2.1
 rw [Int.emod_eq_of_lt hc.1 hc.2, List.cons_append, List.append_assoc, ← b, ← b2]
 exact e
theorem ldProto_inv : Inv ldProto protoB := by
 intro s hb h
 have k1 := ldNum_keeps.byt s hb
 have k2 := ldNum_keeps.byt (ldNum s).2 k1
 have k3 := (ldRow_keeps ldCap_keeps).byt (ldNum (ldNum s).2).2 k2
 obtain ⟨a, b⟩ := ldRow_inv ldIns_inv ldIns_keeps _ k3 h
 obtain ⟨a2, b2⟩ := ldRow_inv ldCap_inv ldCap_keeps _ k2 a
 obtain ⟨a3, b3⟩ := ldNum_inv _ k1 a2
 obtain ⟨a4, b4⟩ := ldNum_inv _ hb a3
 refine ⟨a4, ?_⟩
 rw [b4, b3, b2, b]
 simp only [protoB, ldProto, List.append_assoc]
theorem ldIs_inv : ∀ (cs : List Int) (s : Rs), Byt s.1 → (ldIs cs s).2 = false → s.2 = false ∧ s.1 = cs ++ (ldIs cs s).1
 | [], s, hb, h => ⟨h, rfl⟩
 | c :: cs, s, hb, h => by
  obtain ⟨a, b⟩ := ldIs_inv cs ((ldByte s).2.1, (ldByte s).2.2 || decide ((ldByte s).1 ≠ c)) (ldByte_keeps.byt s hb) h
  simp only [Bool.or_eq_false_iff, decide_eq_false_iff_not, Decidable.not_not] at a
  obtain ⟨d, e⟩ := ldByte_inv s hb a.1
  refine ⟨d, ?_⟩
  rw [e, a.2]
  show [c] ++ (ldByte s).2.1 = c :: cs ++ _
  rw [show (ldByte s).2.1 = cs ++ (ldIs cs ((ldByte s).2.1, (ldByte s).2.2 || decide ((ldByte s).1 ≠ c))).1 from b]
  rfl
theorem ldIs_keeps : ∀ (cs : List Int) (s : Rs), ∃ k, (ldIs cs s).1 = s.1.drop k
 | [], s => ⟨0, rfl⟩
 | c :: cs, s => by
  obtain ⟨k, e⟩ := ldByte_keeps s
  exact keeps_two (k := k) (by rw [← e]; exact ldIs_keeps cs ((ldByte s).2.1, _))
theorem ldProg_inv (l : List Int) (hb : Byt l) (h : (ldProg (l, false)).2.2 = false) : l = saveL (ldProg (l, false)).1.1 (ldProg (l, false)).1.2 := by
 obtain ⟨s1, e1⟩ : ∃ s, s = ldIs [77, 78, 76, 84] (l, false) := ⟨_, rfl⟩
 have hk : Byt s1.1 := by
  obtain ⟨k, e⟩ := ldIs_keeps [77, 78, 76, 84] (l, false)
  rw [e1, e]
  exact fun c hc => hb c (List.mem_of_mem_drop hc)
 unfold ldProg at *
 rw [← e1] at h ⊢
 simp only [ldEnd, Bool.or_eq_false_iff, decide_eq_false_iff_not, Decidable.not_not] at h
 obtain ⟨a, b⟩ := ldRow_inv ldProto_inv ldProto_keeps _ ((ldRow_keeps ldConst_keeps).byt s1 hk) h.1
 obtain ⟨a2, b2⟩ := ldRow_inv ldConst_inv ldConst_keeps _ hk a
 rw [h.2, List.append_nil] at b
 obtain ⟨a3, b3⟩ := ldIs_inv [77, 78, 76, 84] (l, false) hb (by rw [← e1]; exact a2)
 rw [← e1] at b3
 show l = _
 rw [show l = [77, 78, 76, 84] ++ s1.1 from b3, b2, b]
 simp only [saveL, restB, List.append_assoc]
def Fwd {α : Type} (f : Rs → α × Rs) (enc : α → List Int) (ok : α → Prop) : Prop := ∀ x t, ok x → f (enc x ++ t, false) = (x, (t, false))
theorem ldByte_fwd : Fwd ldByte (fun c => [c]) fun _ => True := fun x t _ => rfl
theorem ldNumG_fwd : ∀ (n m : Nat) (sc v y : Int) (t : List Int), 1 ≤ n → n ≤ m → 1 ≤ sc → 0 ≤ y → y < 128 ^ n → (1 < sc → 1 ≤ y) → ldNumG n sc v (varF m y ++ t, false) = (v + y * sc, (t, false))
 | 0, _, _, _, _, _, h, _, _, _, _, _ => by omega
 | n + 1, 0, _, _, _, _, _, h, _, _, _, _ => by omega
 | n + 1, m + 1, sc, v, y, t, _, hm, hs, h0, h1, h2 => by
  by_cases c : 127 < y
  ·
   have hp : (128 : Int) ^ (n + 1) = 128 ^ n * 128 := Int.pow_succ ..
   have hn : 1 ≤ n := by
    rcases Nat.eq_zero_or_pos n with e | e
    ·
     subst e; simp at h1; omega
    ·
     exact e
   rw [varF_big m y c]
   unfold ldNumG
   have e1 : ldByte ([y % 128 + 128] ++ varF m (y / 128) ++ t, false) = (y % 128 + 128, (varF m (y / 128) ++ t, false)) := rfl
   rw [e1, if_neg (by show ¬ y % 128 + 128 < 128; omega)]
   rw [ldNumG_fwd n m (sc * 128) _ (y / 128) t hn (by omega) (by omega) (by omega) (by omega) (fun _ => by omega)]
   have e2 : (y % 128 + 128) % 128 = y % 128 := by omega
   have e3 : v + (y % 128 + 128) % 128 * sc + y / 128 * (sc * 128) = v + y * sc := by
    rw [e2, Int.mul_comm sc 128, ← Int.mul_assoc, Int.add_assoc, ← Int.add_mul, show y % 128 + y / 128 * 128 = y by omega]
   rw [← e3]
  ·
   have e1 : varF (m + 1) y = [y] := by unfold varF; rw [if_neg c, Int.emod_eq_of_lt h0 (by omega)]
   rw [e1]
   unfold ldNumG
   have e2 : ldByte ([y] ++ t, false) = (y, (t, false)) := rfl
   rw [e2, if_pos (by show y < 128; omega)]
   have e3 : (decide (y = 0) && decide (1 < sc)) = false := by
    by_cases k : 1 < sc
    ·
     have := h2 k; simp; omega
    ·
     simp [k]
   simp only [e3, Bool.or_false]
   rw [Int.emod_eq_of_lt h0 (by omega)]
def Num9 (y : Int) : Prop := 0 ≤ y ∧ y < 9223372036854775808
theorem ldNum_fwd : Fwd ldNum (varF 10) Num9 := by
 intro y t h
 have := ldNumG_fwd 9 10 1 0 y t (by omega) (by omega) (by omega) h.1 h.2 (fun k => by omega)
 unfold ldNum
 rw [this, show (0 : Int) + y * 1 = y by omega]
theorem ldCount_fwd (n : Nat) (t : List Int) (h : n ≤ t.length) (hn : n < 9223372036854775808) : ldCount (varF 10 (n : Int) ++ t, false) = ((n : Int), (t, false)) := by
 unfold ldCount
 rw [ldNum_fwd (n : Int) t ⟨by omega, by omega⟩]
 rw [if_neg (by show ¬ (t.length : Int) < n; omega)]
theorem ldMany_fwd {α : Type} {f : Rs → α × Rs} {enc : α → List Int} {ok : α → Prop} (hf : Fwd f enc ok) : ∀ (xs : List α) (t : List Int), (∀ x ∈ xs, ok x) → ldMany f xs.length (xs.flatMap enc ++ t, false) = (xs, (t, false))
 | [], t, _ => rfl
 | x :: xs, t, h => by
  have e : f ((x :: xs).flatMap enc ++ t, false) = (x, (xs.flatMap enc ++ t, false)) := by
   rw [List.flatMap_cons, List.append_assoc]
   exact hf x _ (h x (by simp))
  show ((f ((x :: xs).flatMap enc ++ t, false)).1 :: (ldMany f xs.length (f ((x :: xs).flatMap enc ++ t, false)).2).1, (ldMany f xs.length (f ((x :: xs).flatMap enc ++ t, false)).2).2) = _
  rw [e]
  simp only
  rw [ldMany_fwd hf xs t (fun y hy => h y (by simp [hy]))]
theorem flatMap_more {α : Type} {enc : α → List Int} (h1 : ∀ x, 1 ≤ (enc x).length) : ∀ xs : List α, xs.length ≤ (xs.flatMap enc).length
 | [] => by simp
 | x :: xs => by
  have := flatMap_more h1 xs
  have := h1 x
  rw [List.flatMap_cons, List.length_append, List.length_cons]
  omega
theorem ldRow_fwd {α : Type} {f : Rs → α × Rs} {enc : α → List Int} {ok : α → Prop} (hf : Fwd f enc ok) (h1 : ∀ x, 1 ≤ (enc x).length) : Fwd (ldRow f) (fun xs => varF 10 (xs.length : Int) ++ xs.flatMap enc) fun xs => xs.length < 9223372036854775808 ∧ ∀ x ∈ xs, ok x := by
 intro xs t h
 have hl := flatMap_more h1 xs
 unfold ldRow
 rw [List.append_assoc, ldCount_fwd xs.length _ (by rw [List.length_append]; omega) h.1]
 simp only [Int.toNat_natCast]
 exact ldMany_fwd hf xs t h.2
theorem ldEight_fwd : ∀ (n : Nat) (sc u x : Int) (bs t : List Int), bs.length = n → (∀ i, (h : i < bs.length) → bs[i] = x / 256 ^ i % 256) → 0 ≤ x → x < 256 ^ n → ldEight n sc u (bs ++ t, false) = (u + x * sc, (t, false))
 | 0, sc, u, x, bs, t, hl, hb, h0, h1 => by
  have : bs = [] := List.length_eq_zero_iff.1 hl
  subst this
  have : x = 0 := by simp at h1; omega
  subst this
  simp [ldEight]
 | n + 1, sc, u, x, [], t, hl, hb, h0, h1 => by simp at hl
 | n + 1, sc, u, x, b :: bs, t, hl, hb, h0, h1 => by
  have e0 := hb 0 (by simp)
  simp only [List.getElem_cons_zero, Int.pow_zero, Int.ediv_one] at e0
  have hp : (256 : Int) ^ (n + 1) = 256 ^ n * 256 := Int.pow_succ ..
  unfold ldEight
  have e1 : ldByte (b :: bs ++ t, false) = (b, (bs ++ t, false)) := rfl
  rw [e1]
  simp only
  rw [ldEight_fwd n (sc * 256) (u + b * sc) (x / 256) bs t (by simpa using hl) ?_ (by omega) (by omega)]
  ·
   congr 1
   rw [e0, Int.mul_comm sc 256, ← Int.mul_assoc, Int.add_assoc, ← Int.add_mul, show x % 256 + x / 256 * 256 = x by omega]
  ·
   intro i hi
   have := hb (i + 1) (by simpa using hi)
   rw [List.getElem_cons_succ] at this
   rw [this, Int.pow_succ, Int.mul_comm (256 ^ i) 256, Int.ediv_ediv_of_nonneg (by decide)]
theorem wrap_i64_u64 (n : Int) (h0 : -9223372036854775808 ≤ n) (h1 : n ≤ 9223372036854775807) : IntKind.i64.wrap (IntKind.u64.wrap n) = n := by
 simp [IntKind.wrap, IntKind.bits, IntKind.signed]; omega
theorem eight_fwd (n : Int) (t : List Int) : ldEight 8 1 0 (eightB n ++ t, false) = (IntKind.u64.wrap n, (t, false)) := by
 have hr : 0 ≤ IntKind.u64.wrap n ∧ IntKind.u64.wrap n < 18446744073709551616 := by
  simp [IntKind.wrap, IntKind.bits, IntKind.signed]; omega
 rw [ldEight_fwd 8 1 0 (IntKind.u64.wrap n) (eightB n) t (by simp [eightB]) ?_ hr.1 (by simpa using hr.2)]
 ·
  rw [show (0 : Int) + IntKind.u64.wrap n * 1 = IntKind.u64.wrap n by omega]
 ·
  intro i hi
  simp only [eightB, List.getElem_map, List.getElem_range]
  rw [Int.pow_mul]
  rfl
theorem varF_one (x : Int) : 1 ≤ (varF 10 x).length := by
 unfold varF
 split <;> simp
theorem ldText_fwd : Fwd ldText (fun y => varF 10 (y.length : Int) ++ y) fun y => y.length < 9223372036854775808 := by
 intro y t h
 unfold ldText
 rw [List.append_assoc, ldCount_fwd y.length _ (by rw [List.length_append]; omega) h]
 simp
def okC (c : S48) : Prop := c.f2.length < 9223372036854775808 ∧ (c.f0 = true → c.f1 = 0) ∧ (c.f0 = false → c.f2 = [] ∧ -9223372036854775808 ≤ c.f1 ∧ c.f1 ≤ 9223372036854775807)
theorem ldConst_fwd : Fwd ldConst constB okC := by
 rintro ⟨b, n, y⟩ t ⟨h1, h2, h3⟩
 cases b with
 | true =>
  have e1 : n = 0 := h2 rfl
  subst e1
  have ef : ldFlag (constB ⟨true, 0, y⟩ ++ t, false) = (true, (varF 10 (y.length : Int) ++ y ++ t, false)) := rfl
  unfold ldConst
  rw [ef]
  simp only [if_pos]
  rw [ldText_fwd y t h1]
 | false =>
  obtain ⟨e1, e2, e3⟩ := h3 rfl
  have e1' : y = [] := e1
  subst e1'
  have ef : ldFlag (constB ⟨false, n, []⟩ ++ t, false) = (false, (eightB n ++ t, false)) := rfl
  unfold ldConst
  rw [ef]
  simp only [Bool.false_eq_true, if_false]
  rw [eight_fwd n t]
  simp only
  rw [wrap_i64_u64 n e2 e3]
theorem constB_one (c : S48) : 1 ≤ (constB c).length := by
 unfold constB
 split <;> simp
theorem ldCap_fwd : Fwd ldCap capB fun c => Num9 c.f1 := by
 rintro ⟨b, n⟩ t h
 unfold ldCap
 have ef : ldFlag (capB ⟨b, n⟩ ++ t, false) = (b, (varF 10 n ++ t, false)) := by cases b <;> rfl
 rw [ef]
 simp only
 rw [ldNum_fwd n t h]
def okI (x : S57) : Prop := 0 ≤ x.f0 ∧ x.f0 < 256 ∧ Num9 x.f1 ∧ Num9 x.f2
theorem ldIns_fwd : Fwd ldIns insB okI := by
 rintro ⟨o, a, b⟩ t ⟨h0, h1, h2, h3⟩
 have ef : ldByte (insB ⟨o, a, b⟩ ++ t, false) = (o, (varF 10 a ++ (varF 10 b ++ t), false)) := by
  unfold insB
  rw [Int.emod_eq_of_lt h0 h1]
  show (o, (varF 10 a ++ varF 10 b ++ t, false)) = _
  rw [List.append_assoc]
 unfold ldIns
 rw [ef]
 simp only
 rw [ldNum_fwd a _ h2]
 simp only
 rw [ldNum_fwd b t h3]
def okP (f : S52) : Prop := Num9 f.f0 ∧ Num9 f.f1 ∧ (f.f2.length < 9223372036854775808 ∧ ∀ c ∈ f.f2, Num9 c.f1) ∧ (f.f3.length < 9223372036854775808 ∧ ∀ x ∈ f.f3, okI x)
theorem protoB_eq (f : S52) (t : List Int) : protoB f ++ t = varF 10 f.f0 ++ (varF 10 f.f1 ++ ((varF 10 (f.f2.length : Int) ++ f.f2.flatMap capB) ++ ((varF 10 (f.f3.length : Int) ++ f.f3.flatMap insB) ++ t))) := by
 simp only [protoB, List.append_assoc]
theorem ldProto_fwd : Fwd ldProto protoB okP := by
 rintro f t ⟨h0, h1, h2, h3⟩
 rw [protoB_eq]
 unfold ldProto
 rw [ldNum_fwd f.f0 _ h0]
 simp only
 rw [ldNum_fwd f.f1 _ h1]
 simp only
 rw [ldRow_fwd ldCap_fwd (fun c => by simp [capB]) f.f2 _ h2]
 simp only
 rw [ldRow_fwd ldIns_fwd (fun c => by simp [insB]) f.f3 _ h3]
theorem ldProg_fwd (C : List S48) (P : List S52) (hC : C.length < 9223372036854775808 ∧ ∀ c ∈ C, okC c) (hP : P.length < 9223372036854775808 ∧ ∀ f ∈ P, okP f) : ldProg (saveL C P, false) = ((C, P), ([], false)) := by
 have e : saveL C P = [77, 78, 76, 84] ++ ((varF 10 (C.length : Int) ++ C.flatMap constB) ++ ((varF 10 (P.length : Int) ++ P.flatMap protoB) ++ [])) := by
  simp only [saveL, restB, List.append_assoc, List.append_nil]
 have ei : ldIs [77, 78, 76, 84] (saveL C P, false) = ((varF 10 (C.length : Int) ++ C.flatMap constB) ++ ((varF 10 (P.length : Int) ++ P.flatMap protoB) ++ []), false) := by
  rw [e]; rfl
 unfold ldProg
 rw [ei, ldRow_fwd ldConst_fwd constB_one C _ hC]
 simp only
 rw [ldRow_fwd ldProto_fwd (fun f => by have := varF_one f.f0; unfold protoB; rw [List.length_append]; omega) P _ hP]
 rfl
theorem sNumG_fwd : ∀ (n m : Nat) (sc v y : Int) (t : List Int), 1 ≤ n → n ≤ m → 0 ≤ y → y < 128 ^ n → sNumG n sc v (varF m y ++ t, false) = (v + y * sc, (t, false))
 | 0, _, _, _, _, _, h, _, _, _ => by omega
 | n + 1, 0, _, _, _, _, _, h, _, _ => by omega
 | n + 1, m + 1, sc, v, y, t, _, hm, h0, h1 => by
  by_cases c : 127 < y
  ·
   have hp : (128 : Int) ^ (n + 1) = 128 ^ n * 128 := Int.pow_succ ..
   have hn : 1 ≤ n := by
    rcases Nat.eq_zero_or_pos n with e | e
    ·
     subst e; simp at h1; omega
    ·
     exact e
   rw [varF_big m y c]
   unfold sNumG
   have e1 : ldByte ([y % 128 + 128] ++ varF m (y / 128) ++ t, false) = (y % 128 + 128, (varF m (y / 128) ++ t, false)) := rfl
   rw [e1, if_neg (by show ¬ y % 128 + 128 < 128; omega)]
   rw [sNumG_fwd n m (sc * 128) _ (y / 128) t hn (by omega) (by omega) (by omega)]
   have e2 : (y % 128 + 128) % 128 = y % 128 := by omega
   have e3 : v + (y % 128 + 128) % 128 * sc + y / 128 * (sc * 128) = v + y * sc := by
    rw [e2, Int.mul_comm sc 128, ← Int.mul_assoc, Int.add_assoc, ← Int.add_mul, show y % 128 + y / 128 * 128 = y by omega]
   rw [← e3]
  ·
   have e1 : varF (m + 1) y = [y] := by unfold varF; rw [if_neg c, Int.emod_eq_of_lt h0 (by omega)]
   rw [e1]
   unfold sNumG
   have e2 : ldByte ([y] ++ t, false) = (y, (t, false)) := rfl
   rw [e2, if_pos (by show y < 128; omega)]
   simp only
   rw [Int.emod_eq_of_lt h0 (by omega)]
def Num3 (y : Int) : Prop := 0 ≤ y ∧ y < 2097152
theorem sNum_fwd : Fwd sNum (varF 10) Num3 := by
 intro y t h
 have := sNumG_fwd 3 10 1 0 y t (by omega) (by omega) h.1 h.2
 unfold sNum
 rw [this, show (0 : Int) + y * 1 = y by omega]
theorem sMany_fwd {α : Type} {f : Rs → α × Rs} {enc : α → List Int} {ok : α → Prop} (hf : Fwd f enc ok) : ∀ (xs : List α) (t : List Int), (∀ x ∈ xs, ok x) → sMany f xs.length (xs.flatMap enc ++ t, false) = (xs, (t, false))
 | [], t, _ => rfl
 | x :: xs, t, h => by
  have e : f ((x :: xs).flatMap enc ++ t, false) = (x, (xs.flatMap enc ++ t, false)) := by
   rw [List.flatMap_cons, List.append_assoc]
   exact hf x _ (h x (by simp))
  show ((f ((x :: xs).flatMap enc ++ t, false)).1 :: (sMany f xs.length (f ((x :: xs).flatMap enc ++ t, false)).2).1, (sMany f xs.length (f ((x :: xs).flatMap enc ++ t, false)).2).2) = _
  rw [e]
  simp only
  rw [sMany_fwd hf xs t (fun y hy => h y (by simp [hy]))]
theorem sRow_fwd {α : Type} {f : Rs → α × Rs} {enc : α → List Int} {ok : α → Prop} (hf : Fwd f enc ok) : Fwd (sRow f) (fun xs => varF 10 (xs.length : Int) ++ xs.flatMap enc) fun xs => xs.length < 2097152 ∧ ∀ x ∈ xs, ok x := by
 intro xs t h
 unfold sRow
 rw [List.append_assoc, sNum_fwd (xs.length : Int) _ ⟨by omega, by omega⟩]
 simp only [Int.toNat_natCast]
 exact sMany_fwd hf xs t h.2
theorem flatMap_one (y : List Int) : y.flatMap (fun c => [c]) = y := by
 induction y with
 | nil => rfl
 | cons a y ih => rw [List.flatMap_cons, ih]; rfl
def okC3 (c : S48) : Prop := c.f2.length < 2097152 ∧ (c.f0 = true → c.f1 = 0) ∧ (c.f0 = false → c.f2 = [] ∧ -9223372036854775808 ≤ c.f1 ∧ c.f1 ≤ 9223372036854775807)
theorem sConst_fwd : Fwd sConst constB okC3 := by
 rintro ⟨b, n, y⟩ t ⟨h1, h2, h3⟩
 cases b with
 | true =>
  have e1 : n = 0 := h2 rfl
  subst e1
  have ef : ldByte (constB ⟨true, 0, y⟩ ++ t, false) = (1, (varF 10 (y.length : Int) ++ y ++ t, false)) := rfl
  unfold sConst
  rw [ef]
  simp only [if_pos]
  have := sRow_fwd ldByte_fwd y t ⟨h1, fun _ _ => trivial⟩
  simp only [flatMap_one] at this
  rw [this]
 | false =>
  obtain ⟨e1, e2, e3⟩ := h3 rfl
  have e1' : y = [] := e1
  subst e1'
  have ef : ldByte (constB ⟨false, n, []⟩ ++ t, false) = (0, (eightB n ++ t, false)) := rfl
  unfold sConst
  rw [ef]
  simp only [show ¬ ((0 : Int) = 1) by decide, if_false]
  rw [eight_fwd n t]
  simp only
  rw [wrap_i64_u64 n e2 e3]
theorem sCap_fwd : Fwd sCap capB fun c => Num3 c.f1 := by
 rintro ⟨b, n⟩ t h
 unfold sCap
 have ef : ldByte (capB ⟨b, n⟩ ++ t, false) = (tI b, (varF 10 n ++ t, false)) := by cases b <;> rfl
 rw [ef]
 simp only
 rw [sNum_fwd n t h]
 cases b <;> rfl
def okI3 (x : S57) : Prop := 0 ≤ x.f0 ∧ x.f0 < 256 ∧ Num3 x.f1 ∧ Num3 x.f2
theorem sIns_fwd : Fwd sIns insB okI3 := by
 rintro ⟨o, a, b⟩ t ⟨h0, h1, h2, h3⟩
 have ef : ldByte (insB ⟨o, a, b⟩ ++ t, false) = (o, (varF 10 a ++ (varF 10 b ++ t), false)) := by
  unfold insB
  rw [Int.emod_eq_of_lt h0 h1]
  show (o, (varF 10 a ++ varF 10 b ++ t, false)) = _
  rw [List.append_assoc]
 unfold sIns
 rw [ef]
 simp only
 rw [sNum_fwd a _ h2]
 simp only
 rw [sNum_fwd b t h3]
def okP3 (f : S52) : Prop := Num3 f.f0 ∧ Num3 f.f1 ∧ (f.f2.length < 2097152 ∧ ∀ c ∈ f.f2, Num3 c.f1) ∧ (f.f3.length < 2097152 ∧ ∀ x ∈ f.f3, okI3 x)
theorem sProto_fwd : Fwd sProto protoB okP3 := by
 rintro f t ⟨h0, h1, h2, h3⟩
 rw [protoB_eq]
 unfold sProto
 rw [sNum_fwd f.f0 _ h0]
 simp only
 rw [sNum_fwd f.f1 _ h1]
 simp only
 rw [sRow_fwd sCap_fwd f.f2 _ h2]
 simp only
 rw [sRow_fwd sIns_fwd f.f3 _ h3]
theorem sProg_fwd (C : List S48) (P : List S52) (hC : C.length < 2097152 ∧ ∀ c ∈ C, okC3 c) (hP : P.length < 2097152 ∧ ∀ f ∈ P, okP3 f) : sProg ((saveL C P).drop 4, false) = ((C, P), ([], false)) := by
 have e : (saveL C P).drop 4 = (varF 10 (C.length : Int) ++ C.flatMap constB) ++ ((varF 10 (P.length : Int) ++ P.flatMap protoB) ++ []) := by
  simp only [saveL, restB, List.append_assoc, List.append_nil]
  rfl
 unfold sProg
 rw [e, sRow_fwd sConst_fwd C _ hC]
 simp only
 rw [sRow_fwd sProto_fwd P _ hP]
def Eat {α : Type} (f : Rs → α × Rs) (w : α → Nat) : Prop := ∀ s : Rs, (f s).2.2 = false → s.2 = false ∧ w (f s).1 + (f s).2.1.length ≤ s.1.length
theorem ldByte_eat : Eat ldByte fun _ => 1 := by
 rintro ⟨l, e⟩ h
 cases l with
 | nil => simp [ldByte] at h
 | cons c t => exact ⟨h, by simp [ldByte]; omega⟩
theorem sNumG_eat : ∀ n (sc v : Int), Eat (sNumG n sc v) fun _ => 1
 | 0, sc, v, s, h => by simp [sNumG] at h
 | n + 1, sc, v, s, h => by
  unfold sNumG at h ⊢
  split at h
  ·
   rename_i c
   rw [if_pos c]
   exact ldByte_eat s h
  ·
   rename_i c
   rw [if_neg c]
   obtain ⟨a, b⟩ := sNumG_eat n _ _ _ h
   obtain ⟨d, e⟩ := ldByte_eat s a
   exact ⟨d, by omega⟩
theorem sNum_eat : Eat sNum fun _ => 1 := sNumG_eat 3 1 0
theorem sMany_eat {α : Type} {f : Rs → α × Rs} {w : α → Nat} (hf : Eat f w) : ∀ n, Eat (sMany f n) fun xs => (xs.map w).sum
 | 0, s, h => ⟨h, by simp [sMany]⟩
 | n + 1, s, h => by
  unfold sMany at h ⊢
  split at h
  ·
   rename_i c
   simp [c] at h
  ·
   rename_i c
   rw [if_neg c]
   obtain ⟨a, b⟩ := sMany_eat hf n _ h
   obtain ⟨d, e⟩ := hf s a
   refine ⟨d, ?_⟩
   simp only [List.map_cons, List.sum_cons]
   simp only at b
   omega
theorem sRow_eat {α : Type} {f : Rs → α × Rs} {w : α → Nat} (hf : Eat f w) : Eat (sRow f) fun xs => 1 + (xs.map w).sum := by
 intro s h
 obtain ⟨a, b⟩ := sMany_eat hf _ _ h
 obtain ⟨d, e⟩ := sNum_eat s a
 refine ⟨d, ?_⟩
 have e' : 1 + (sNum s).2.1.length ≤ s.1.length := e
 have b' : ((sRow f s).1.map w).sum + (sRow f s).2.1.length ≤ (sNum s).2.1.length := b
 show 1 + ((sRow f s).1.map w).sum + (sRow f s).2.1.length ≤ s.1.length
 omega
theorem ldEight_eat : ∀ n (sc u : Int), Eat (ldEight n sc u) fun _ => 0
 | 0, sc, u, s, h => ⟨h, by simp [ldEight]⟩
 | n + 1, sc, u, s, h => by
  obtain ⟨a, b⟩ := ldEight_eat n _ _ _ h
  obtain ⟨d, e⟩ := ldByte_eat s a
  refine ⟨d, ?_⟩
  show 0 + (ldEight n (sc * 256) (u + (ldByte s).1 * sc) (ldByte s).2).2.1.length ≤ s.1.length
  omega
def wC (c : S48) : Nat := 1 + c.f2.length
def wP (f : S52) : Nat := 1 + f.f2.length + f.f3.length
theorem sum_ones {α : Type} (xs : List α) : (xs.map fun _ => 1).sum = xs.length := by
 induction xs with
 | nil => rfl
 | cons x xs ih => simp only [List.map_cons, List.sum_cons, List.length_cons, ih]; omega
theorem sConst_eat : Eat sConst wC := by
 intro s h
 unfold sConst at *
 split at h
 ·
  rename_i c
  rw [if_pos c]
  obtain ⟨a, b⟩ := sRow_eat ldByte_eat _ h
  obtain ⟨d, e⟩ := ldByte_eat s a
  refine ⟨d, ?_⟩
  dsimp only at b e
  rw [sum_ones] at b
  show 1 + (sRow ldByte (ldByte s).2).1.length + (sRow ldByte (ldByte s).2).2.1.length ≤ s.1.length
  omega
 ·
  rename_i c
  rw [if_neg c]
  obtain ⟨a, b⟩ := ldEight_eat 8 1 0 _ h
  obtain ⟨d, e⟩ := ldByte_eat s a
  refine ⟨d, ?_⟩
  dsimp only at b e
  show 1 + 0 + (ldEight 8 1 0 (ldByte s).2).2.1.length ≤ s.1.length
  omega
theorem sCap_eat : Eat sCap fun _ => 1 := by
 intro s h
 obtain ⟨a, b⟩ := sNum_eat _ h
 obtain ⟨d, e⟩ := ldByte_eat s a
 refine ⟨d, ?_⟩
 dsimp only at b e
 show 1 + (sNum (ldByte s).2).2.1.length ≤ s.1.length
 omega
theorem sIns_eat : Eat sIns fun _ => 1 := by
 intro s h
 obtain ⟨a, b⟩ := sNum_eat _ h
 obtain ⟨a2, b2⟩ := sNum_eat _ a
 obtain ⟨d, e⟩ := ldByte_eat s a2
 refine ⟨d, ?_⟩
 dsimp only at b b2 e
 show 1 + (sNum (sNum (ldByte s).2).2).2.1.length ≤ s.1.length
 omega
theorem sProto_eat : Eat sProto wP := by
 intro s h
 obtain ⟨a, b⟩ := sRow_eat sIns_eat _ h
 obtain ⟨a2, b2⟩ := sRow_eat sCap_eat _ a
 obtain ⟨a3, b3⟩ := sNum_eat _ a2
 obtain ⟨a4, b4⟩ := sNum_eat _ a3
 refine ⟨a4, ?_⟩
 dsimp only at b b2 b3 b4
 rw [sum_ones] at b b2
 show 1 + (sRow sCap (sNum (sNum s).2).2).1.length + (sRow sIns (sRow sCap (sNum (sNum s).2).2).2).1.length + (sRow sIns (sRow sCap (sNum (sNum s).2).2).2).2.1.length ≤ s.1.length
 omega
theorem sProg_eat (s : Rs) (h : (sProg s).2.2 = false) : ((sProg s).1.1.map wC).sum + ((sProg s).1.2.map wP).sum ≤ s.1.length := by
 obtain ⟨a, b⟩ := sRow_eat sProto_eat _ h
 obtain ⟨a2, b2⟩ := sRow_eat sConst_eat _ a
 show ((sRow sConst s).1.map wC).sum + ((sRow sProto (sRow sConst s).2).1.map wP).sum ≤ s.1.length
 simp only at b b2
 omega
theorem wsum_mem {α : Type} {w : α → Nat} : ∀ {xs : List α} {x : α}, x ∈ xs → w x ≤ (xs.map w).sum
 | [], x, h => by simp at h
 | y :: xs, x, h => by
  rcases List.mem_cons.1 h with rfl | h
  ·
   simp
  ·
   have := wsum_mem (w := w) h
   simp only [List.map_cons, List.sum_cons]
   omega
theorem len_sum {α : Type} {w : α → Nat} (h : ∀ x, 1 ≤ w x) : ∀ xs : List α, xs.length ≤ (xs.map w).sum
 | [] => by simp
 | x :: xs => by
  have := len_sum h xs
  have := h x
  simp only [List.map_cons, List.sum_cons, List.length_cons]
  omega
theorem flatMap_sum {α : Type} {w : α → Nat} {enc : α → List Int} : ∀ xs : List α, (∀ x ∈ xs, w x ≤ (enc x).length) → (xs.map w).sum ≤ (xs.flatMap enc).length
 | [], _ => by simp
 | x :: xs, h => by
  have := flatMap_sum xs (fun y hy => h y (by simp [hy]))
  have := h x (by simp)
  simp only [List.map_cons, List.sum_cons, List.flatMap_cons, List.length_append]
  omega
theorem saveL_size (C : List S48) (P : List S52) (hC : ∀ c ∈ C, c.f0 = false → c.f2 = []) : (C.map wC).sum + (P.map wP).sum ≤ (saveL C P).length := by
 have h1 := flatMap_sum (w := wC) (enc := constB) C (fun c hc => by
  unfold wC constB
  by_cases k : c.f0 = true
  ·
   rw [if_pos k]; simp; omega
  ·
   rw [if_neg k, hC c hc (by simpa using k)]; simp)
 have h2 := flatMap_sum (w := wP) (enc := protoB) P (fun f _ => by
  have e2 := flatMap_more (enc := capB) (fun c => by simp [capB]) f.f2
  have e3 := flatMap_more (enc := insB) (fun c => by simp [insB]) f.f3
  have v := varF_one f.f0
  unfold wP protoB
  simp only [List.length_append]
  omega)
 unfold saveL restB
 simp only [List.length_append]
 omega
def rngC (c : S48) : Prop := -9223372036854775808 ≤ c.f1 ∧ c.f1 ≤ 9223372036854775807 ∧ (c.f0 = true → c.f1 = 0) ∧ (c.f0 = false → c.f2 = [])
theorem rng_wrap (x : Int) : -9223372036854775808 ≤ IntKind.i64.wrap x ∧ IntKind.i64.wrap x ≤ 9223372036854775807 := by
 simp [IntKind.wrap, IntKind.bits, IntKind.signed]; omega
theorem rng_a (y : List Int) : rngC ⟨true, 0, y⟩ := by
 unfold rngC
 simp
theorem rng_b (x : Int) : rngC ⟨false, IntKind.i64.wrap x, []⟩ := by
 have := rng_wrap x
 unfold rngC
 simp
 exact this
theorem ldConst_rng (s : Rs) : rngC (ldConst s).1 := by
 unfold ldConst
 split
 ·
  exact rng_a _
 ·
  exact rng_b _
theorem sConst_rng (s : Rs) : rngC (sConst s).1 := by
 unfold sConst
 split
 ·
  exact rng_a _
 ·
  exact rng_b _
theorem ldMany_all {α : Type} {f : Rs → α × Rs} {ok : α → Prop} (h : ∀ s, ok (f s).1) : ∀ n (s : Rs), ∀ x ∈ (ldMany f n s).1, ok x
 | 0, s, x, hx => by simp [ldMany] at hx
 | n + 1, s, x, hx => by
  rcases List.mem_cons.1 hx with rfl | hx
  ·
   exact h s
  ·
   exact ldMany_all h n _ x hx
theorem sMany_all {α : Type} {f : Rs → α × Rs} {ok : α → Prop} (h : ∀ s, ok (f s).1) : ∀ n (s : Rs), ∀ x ∈ (sMany f n s).1, ok x
 | 0, s, x, hx => by simp [sMany] at hx
 | n + 1, s, x, hx => by
  unfold sMany at hx
  split at hx
  ·
   simp at hx
  ·
   rcases List.mem_cons.1 hx with rfl | hx
   ·
    exact h s
   ·
    exact sMany_all h n _ x hx
theorem ldProg_rng (s : Rs) : ∀ c ∈ (ldProg s).1.1, rngC c := fun c hc => ldMany_all ldConst_rng _ _ c hc
theorem sProg_rng (s : Rs) : ∀ c ∈ (sProg s).1.1, rngC c := fun c hc => sMany_all sConst_rng _ _ c hc
def chkT (C : List S48) (P : List S52) : Bool := decide (impl_Check.f C P = some true)
def sAns (l : List Int) : (List S48 × List S52) × Int :=
 if (sProg (l.drop 4, false)).2.2 = false ∧ chkT (sProg (l.drop 4, false)).1.1 (sProg (l.drop 4, false)).1.2 = true ∧ saveL (sProg (l.drop 4, false)).1.1 (sProg (l.drop 4, false)).1.2 = l then ((sProg (l.drop 4, false)).1, 0) else (([], []), 1)
def iAns (l : List Int) : (List S48 × List S52) × Int :=
 if (ldProg (l, false)).2.2 = false ∧ chkT (ldProg (l, false)).1.1 (ldProg (l, false)).1.2 = true then ((ldProg (l, false)).1, 0) else (([], []), 1)
theorem sound_ok3 {C : List S48} {P : List S52} (h : Sound C P) (hr : ∀ c ∈ C, rngC c) : (C.length < 2097152 ∧ ∀ c ∈ C, okC3 c) ∧ (P.length < 2097152 ∧ ∀ f ∈ P, okP3 f) := by
 have n1 := h.n1
 have n2 := h.n2
 refine ⟨⟨by omega, fun c hc => ?_⟩, ⟨by omega, fun f hf => ?_⟩⟩
 ·
  obtain ⟨r1, r2, r3, r4⟩ := hr c hc
  have := (h.cst hc).1
  exact ⟨by omega, r3, fun e => ⟨r4 e, r1, r2⟩⟩
 ·
  obtain ⟨a1, a2, a3, a4, a5, a6, a7, a8⟩ := h.pro hf
  refine ⟨⟨a1, by omega⟩, ⟨by omega, by omega⟩, ⟨by omega, fun c hc => ?_⟩, ⟨by omega, fun x hx => ?_⟩⟩
  ·
   have := a7 c hc; exact ⟨by omega, by omega⟩
  ·
   obtain ⟨b1, b2, b3, b4, b5, b6, _⟩ := (a8 x hx).1
   exact ⟨b1, by omega, ⟨b3, by omega⟩, ⟨b5, by omega⟩⟩
theorem sound_ok9 {C : List S48} {P : List S52} (h : Sound C P) (hr : ∀ c ∈ C, rngC c) : (C.length < 9223372036854775808 ∧ ∀ c ∈ C, okC c) ∧ (P.length < 9223372036854775808 ∧ ∀ f ∈ P, okP f) := by
 have w : ∀ {y : Int}, Num3 y → Num9 y := fun h => ⟨h.1, by have := h.2; omega⟩
 obtain ⟨⟨a, b⟩, ⟨c, d⟩⟩ := sound_ok3 h hr
 refine ⟨⟨by omega, fun x hx => ?_⟩, ⟨by omega, fun f hf => ?_⟩⟩
 ·
  obtain ⟨k1, k2, k3⟩ := b x hx
  exact ⟨by omega, k2, k3⟩
 ·
  obtain ⟨k1, k2, ⟨k3, k4⟩, ⟨k5, k6⟩⟩ := d f hf
  refine ⟨w k1, w k2, ⟨by omega, fun x hx => w (k4 x hx)⟩, ⟨by omega, fun x hx => ?_⟩⟩
  obtain ⟨m1, m2, m3, m4⟩ := k6 x hx
  exact ⟨m1, m2, w m3, w m4⟩
theorem ans_same (l : List Int) (hb : Byt l) : sAns l = iAns l := by
 by_cases hi : (ldProg (l, false)).2.2 = false ∧ chkT (ldProg (l, false)).1.1 (ldProg (l, false)).1.2 = true
 ·
  obtain ⟨h1, h2⟩ := hi
  have e := ldProg_inv l hb h1
  have hs := sound_of (of_decide_eq_true h2)
  have hk := sound_ok3 hs (ldProg_rng _)
  have hf := sProg_fwd _ _ hk.1 hk.2
  rw [← e] at hf
  have e1 : iAns l = ((ldProg (l, false)).1, 0) := if_pos ⟨h1, h2⟩
  rw [e1]
  unfold sAns
  rw [hf]
  exact if_pos ⟨rfl, h2, e.symm⟩
 ·
  have hn : ¬ ((sProg (l.drop 4, false)).2.2 = false ∧ chkT (sProg (l.drop 4, false)).1.1 (sProg (l.drop 4, false)).1.2 = true ∧ saveL (sProg (l.drop 4, false)).1.1 (sProg (l.drop 4, false)).1.2 = l) := by
   rintro ⟨h1, h2, h3⟩
   have hs := sound_of (of_decide_eq_true h2)
   have hk := sound_ok9 hs (sProg_rng _)
   have hf := ldProg_fwd _ _ hk.1 hk.2
   rw [h3] at hf
   apply hi
   rw [hf]
   exact ⟨rfl, h2⟩
  unfold sAns iAns
  rw [if_neg hi, if_neg hn]
theorem sum_code_le : ∀ P : List S52, sumCode P ≤ (P.map wP).sum
 | [] => by simp [sumCode]
 | f :: P => by
  have := sum_code_le P
  simp only [sumCode, List.map_cons, List.sum_cons]
  unfold wP at *
  omega
theorem fine_w {C : List S48} {P : List S52} (h : (C.map wC).sum + (P.map wP).sum ≤ 1048576) : FineP C P ∧ sumCode P ≤ 1048576 := by
 have h1 := len_sum (w := wC) (fun c => by unfold wC; omega) C
 have h2 := len_sum (w := wP) (fun c => by unfold wP; omega) P
 refine ⟨⟨by omega, by omega, fun x hx => ?_, fun x hx => ?_⟩, ?_⟩
 ·
  have := wsum_mem (w := wC) hx; have e : wC x = 1 + x.f2.length := rfl; omega
 ·
  have := wsum_mem (w := wP) hx; have e : wP x = 1 + x.f2.length + x.f3.length := rfl; omega
 ·
  have := sum_code_le P; omega
theorem s_fine (l : List Int) (hl : l.length ≤ 1048576) (h : (sProg (l.drop 4, false)).2.2 = false) : FineP (sProg (l.drop 4, false)).1.1 (sProg (l.drop 4, false)).1.2 ∧ sumCode (sProg (l.drop 4, false)).1.2 ≤ 1048576 := by
 have := sProg_eat _ h
 have e : (l.drop 4, false).1.length ≤ l.length := by simp
 exact fine_w (by omega)
theorem i_fine (l : List Int) (hb : Byt l) (hl : l.length ≤ 1048576) (h : (ldProg (l, false)).2.2 = false) : FineP (ldProg (l, false)).1.1 (ldProg (l, false)).1.2 ∧ sumCode (ldProg (l, false)).1.2 ≤ 1048576 := by
 have e := ldProg_inv l hb h
 have := saveL_size (ldProg (l, false)).1.1 (ldProg (l, false)).1.2 (fun c hc => (ldProg_rng _ c hc).2.2.2)
 rw [← e] at this
 exact fine_w (by omega)
end Go.Proofs.Ytmmpiojekgfdjaa.C
