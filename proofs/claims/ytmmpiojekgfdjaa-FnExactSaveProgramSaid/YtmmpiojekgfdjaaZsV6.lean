/- What a sound program is. -/
import Derived.Test.YtmmpiojekgfdjaaZsV5
import Derived.Test.YtmmpiojekgfdjaaZsK
namespace Go.Proofs.Ytmmpiojekgfdjaa.C
open Go.RowKit Go.Proofs.YtmmpiojekgfdjaaW.PrintWords Go.Proofs.YtmmpiojekgfdjaaW.PrintLast
set_option linter.unusedVariables false
set_option linter.unusedSimpArgs false
structure Sound (cs : List S48) (ps : List S52) : Prop where
  n0 : 1 ≤ ps.length
  n1 : ps.length ≤ 500
  n2 : cs.length ≤ 20000
  cb : cs.any constBad = false
  pb : protosBad 0 ps = false
  sm : sumCode ps ≤ 20000
  ok : ∀ f ∈ ps, codeOK cs.length ps f f.f3 = true ∧ ghL f.f3 (3 * f.f3.length + 5) [] [(0, 0)] = some true
theorem codesOK_all {nc : Nat} {ps : List S52} : ∀ {fs : List S52}, codesOK nc ps fs = some true → ∀ f ∈ fs, codeOK nc ps f f.f3 = true ∧ ghL f.f3 (3 * f.f3.length + 5) [] [(0, 0)] = some true
  | [], _, f, h => by simp at h
  | g :: fs, h, f, hf => by
    rcases codesOK_cons h with ⟨_, h2⟩ | ⟨h1, z, hz, h2⟩
    · cases h2
    · rcases h2 with ⟨_, h3⟩ | ⟨h3, h4⟩
      · cases h3
      · subst h3
        rcases List.mem_cons.1 hf with rfl | hf
        · exact ⟨h1, hz⟩
        · exact codesOK_all h4 f hf
theorem sound_of {cs : List S48} {ps : List S52} (h : impl_Check.f cs ps = some true) : Sound cs ps := by
  unfold impl_Check.f at h
  split at h
  · cases h
  split at h
  · cases h
  rename_i h1
  split at h
  · cases h
  rename_i h2
  split at h
  · cases h
  rename_i h3
  split at h
  · cases h
  rename_i h4
  exact ⟨by omega, by omega, by omega, by simpa using h2, by simpa using h3, by omega, codesOK_all h⟩
theorem Sound.cst {cs : List S48} {ps : List S52} (h : Sound cs ps) {c : S48} (hc : c ∈ cs) : c.f2.length ≤ 5000 ∧ (c.f0 = true → c.f1 = 0) ∧ (c.f0 = false → c.f2 = []) := by
  have := List.any_eq_false.1 h.cb c hc
  unfold constBad at this
  simp at this
  refine ⟨by omega, fun e => this.2.1 e, fun e => this.2.2 e⟩
theorem Sound.pro {cs : List S48} {ps : List S52} (h : Sound cs ps) {f : S52} (hf : f ∈ ps) :
    0 ≤ f.f0 ∧ f.f0 ≤ f.f1 ∧ f.f1 ≤ 200 ∧ f.f2.length ≤ 100 ∧ 0 < f.f3.length ∧ f.f3.length ≤ 20000 ∧ (∀ c ∈ f.f2, 0 ≤ c.f1 ∧ c.f1 < 200) ∧ ∀ x ∈ f.f3, FineIns f.f3.length x ∧ goodInsB x.f0 x.f1 x.f2 cs.length ps f.f1 f.f2.length f.f3.length = true := by
  have hb := protosBad_mem h.pb f hf
  unfold protoBad at hb
  simp at hb
  obtain ⟨b1, b2, b3, b4, b5, b6⟩ := hb
  have hs := sumCode_mem hf
  have hsm := h.sm
  have hpos : 0 < f.f3.length := List.length_pos_iff.2 b6
  refine ⟨by omega, by omega, by omega, by omega, hpos, by omega, fun c hc => ?_, fun x hx => ?_⟩
  · have := b1 c hc
    unfold capBad at this
    simp at this
    omega
  · have hg := (h.ok f hf).1
    unfold codeOK at hg
    have := List.all_eq_true.1 hg x hx
    exact ⟨fine_of_good this h.n2 h.n1 (by omega) (by omega) (by omega) (by omega), this⟩
theorem flatMap_len {α : Type} {f : α → List Int} {k : Nat} : ∀ {l : List α}, (∀ x ∈ l, (f x).length ≤ k) → (l.flatMap f).length ≤ k * l.length
  | [], _ => by simp
  | x :: l, h => by
    have h1 := h x (by simp)
    have h2 := flatMap_len (l := l) (fun y hy => h y (by simp [hy]))
    rw [List.flatMap_cons, List.length_append, List.length_cons, Nat.mul_succ]
    omega
theorem Sound.save {cs : List S48} {ps : List S52} (h : Sound cs ps) : SaveOK cs ps := by
  have n1 := h.n1
  have n2 := h.n2
  have hc : ∀ c ∈ cs, (constB c).length ≤ 5100 := by
    intro c hc
    have := (h.cst hc).1
    have hv := varF_len 10 (c.f2.length : Int)
    unfold constB
    split
    · simp; omega
    · simp [eightB]
  have hp : ∀ f ∈ ps, (protoB f).length ≤ 500000 := by
    intro f hf
    obtain ⟨a1, a2, a3, a4, a5, a6, a7, a8⟩ := h.pro hf
    have v0 := varF_len 10 f.f0
    have v1 := varF_len 10 f.f1
    have v2 := varF_len 10 (f.f2.length : Int)
    have v3 := varF_len 10 (f.f3.length : Int)
    have e2 := flatMap_len (f := capB) (k := 11) (l := f.f2) (fun c _ => by have := varF_len 10 c.f1; simp [capB]; omega)
    have e3 := flatMap_len (f := insB) (k := 21) (l := f.f3) (fun x _ => by have := varF_len 10 x.f1; have := varF_len 10 x.f2; simp [insB]; omega)
    unfold protoB
    simp only [List.length_append]
    omega
  refine ⟨by omega, by omega, fun c hc => by have := (h.cst hc).1; omega, fun f hf => ?_, ?_⟩
  · obtain ⟨a1, a2, a3, a4, a5, a6, a7, a8⟩ := h.pro hf
    refine ⟨⟨a1, by omega⟩, ⟨by omega, by omega⟩, by omega, by omega, fun c hc => ?_, fun x hx => ?_⟩
    · have := a7 c hc; exact ⟨by omega, by omega⟩
    · obtain ⟨_, _, b3, b4, b5, b6, _⟩ := (a8 x hx).1; exact ⟨⟨b3, by omega⟩, ⟨b5, by omega⟩⟩
  · have e1 := flatMap_len hc
    have e2 := flatMap_len hp
    have v1 := varF_len 10 (cs.length : Int)
    have v2 := varF_len 10 (ps.length : Int)
    unfold saveL restB
    simp only [List.length_append, List.length_cons, List.length_nil]
    omega
set_option maxHeartbeats 4000000 in
theorem spec_Save_calls (A0 A1 : Option Addr) (c0 c1 : Nat) (cs : List S48) (ps : List S52) (k : Nat) (r : Bool) (w : World) (hr0 : Kd.C k48 w A0 cs.length cs) (hc0 : cs.length ≤ c0) (hr1 : Kd.C k52 w A1 ps.length ps) (hc1 : ps.length ≤ c1)
    (h : spec_Check.f k cs ps = some r) (hok : r = true → SaveOK cs ps) :
    Calls Try.prog 12 #[.agg #[.slice A0 cs.length c0, .slice A1 ps.length c1]] w fun e w' => ∃ v, e = .returned v ∧ Kd.R (Kd.int .u8) 5 w' w.heap.size (fun _ => True) v (if r = true then saveL cs ps else []) ∧ Below w.heap.size w w' := by
  have HB := Aside0.mk ((Below.refl w.heap.size w).alloc (Nat.le_refl _) (.cells #[.slice A0 cs.length c0, .slice A1 ps.length c1] 31))
  have HP : Aside0 ((w.alloc (.cells #[.slice A0 cs.length c0, .slice A1 ps.length c1] 31)).heap[w.heap.size]? = some (.cells #[.slice A0 cs.length c0, .slice A1 ps.length c1] 31 (0, 0))) := ⟨heap_alloc_new _ _⟩
  have HR0 := Aside0.mk hr0
  have HC0 := Aside0.mk hc0
  have HR1 := Aside0.mk hr1
  have HC1 := Aside0.mk hc1
  have HH := Aside0.mk h
  have HOK := Aside0.mk hok
  clear hr0 hc0 hr1 hc1 h hok
  go_enter Try.func12, Try.ntmps12
  go_wp2_with fail
  refine (spec_Check.calls k A0 c0 cs A1 c1 ps r _ (Kd.C_below HR0.out HB.out) HC0.out (Kd.C_below HR1.out HB.out) HC1.out HH.out).mono ?_
  rintro e w2 ⟨rfl, hb⟩
  have HB2 := Aside0.mk (below_step HB.out hb)
  have hP2 := (hb.block _ (blk_lt HP.out)).trans HP.out
  have hp0 : w2.cell? ⟨w.heap.size, 0, none⟩ = some (.slice A0 cs.length c0) := (blk_cell hP2 0).trans rfl
  have hp1 : w2.cell? ⟨w.heap.size, 1, none⟩ = some (.slice A1 ps.length c1) := (blk_cell hP2 1).trans rfl
  clear hb hP2
  cases r with
  | false =>
    go_wp2_with fail
    go_ret
    exact ⟨_, rfl, Kd.R_nil _ _ _ _ _, HB2.out⟩
  | true =>
    go_wp2_with fail
    refine (l5save_calls A0 A1 c0 c1 cs ps w2 (Kd.C_below HR0.out HB2.out) (Kd.C_below HR1.out HB2.out) (by first | exact HOK.out rfl | exact HOK.out trivial)).mono ?_
    rintro e w3 ⟨v, rfl, hr, hb⟩
    have HB3 := Aside0.mk (below_step HB2.out hb)
    have HV := Aside0.mk (Kd.R_lower hr HB2.out.size)
    clear hb hr hp0 hp1
    go_wp2_with fail
    go_ret
    exact ⟨v, rfl, by simpa using HV.out, HB3.out⟩
end Go.Proofs.Ytmmpiojekgfdjaa.C
