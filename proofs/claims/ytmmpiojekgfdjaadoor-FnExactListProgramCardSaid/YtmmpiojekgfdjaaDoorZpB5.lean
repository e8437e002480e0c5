/- What the listing gets. -/
import Derived.Test.YtmmpiojekgfdjaaDoorZpB3
import Derived.Test.YtmmpiojekgfdjaaDoorZpBq
import Derived.Test.YtmmpiojekgfdjaaDoorZpV0
import Derived.Test.YtmmpiojekgfdjaaDoorZpK
namespace Go.Proofs.YtmmpiojekgfdjaaDoor.C
open Go.RowKit YtmmpiojekgfdjaaDoorW.PrintWords YtmmpiojekgfdjaaDoorW.PrintLast
set_option linter.unusedVariables false
set_option linter.unusedSimpArgs false
structure Sound (cs : List S69) (ps : List S45) : Prop where
 n0 : 1 ≤ ps.length
 n1 : ps.length ≤ 500
 n2 : cs.length ≤ 20000
 cb : cs.any constBad = false
 pb : protosBad 0 ps = false
 sm : sumCode ps ≤ 20000
 ok : ∀ f ∈ ps, codeOK cs.length ps f f.f3 = true ∧ ghL f.f3 (3 * f.f3.length + 5) [] [(0, 0)] = some true
theorem codesOK_all {nc : Nat} {ps : List S45} : ∀ {fs : List S45}, codesOK nc ps fs = some true → ∀ f ∈ fs, codeOK nc ps f f.f3 = true ∧ ghL f.f3 (3 * f.f3.length + 5) [] [(0, 0)] = some true
 | [], _, f, h => by simp at h
 | g :: fs, h, f, hf => by
  rcases codesOK_cons h with ⟨_, h2⟩ | ⟨h1, z, hz, h2⟩
  ·
   cases h2
  ·
   rcases h2 with ⟨_, h3⟩ | ⟨h3, h4⟩
   ·
    cases h3
   ·
    subst h3
    rcases List.mem_cons.1 hf with rfl | hf
    ·
     exact ⟨h1, hz⟩
    ·
     exact codesOK_all h4 f hf
theorem sound_of {cs : List S69} {ps : List S45} (h : impl_Check.f cs ps = some true) : Sound cs ps := by
 unfold impl_Check.f at h
 split at h
 ·
  cases h
 split at h
 ·
  cases h
 rename_i h1
 split at h
 ·
  cases h
 rename_i h2
 split at h
 ·
  cases h
 rename_i h3
 split at h
 ·
  cases h
 rename_i h4
 exact ⟨by omega, by omega, by omega, by simpa using h2, by simpa using h3, by omega, codesOK_all h⟩
theorem Sound.cst {cs : List S69} {ps : List S45} (h : Sound cs ps) {c : S69} (hc : c ∈ cs) : c.f2.length ≤ 5000 ∧ (c.f0 = true → c.f1 = 0) ∧ (c.f0 = false → c.f2 = []) := by
 have := List.any_eq_false.1 h.cb c hc
 unfold constBad at this
 simp at this
 refine ⟨by omega, fun e => this.2.1 e, fun e => this.2.2 e⟩
theorem Sound.pro {cs : List S69} {ps : List S45} (h : Sound cs ps) {f : S45} (hf : f ∈ ps) :
  0 ≤ f.f0 ∧ f.f0 ≤ f.f1 ∧ f.f1 ≤ 200 ∧ f.f2.length ≤ 100 ∧ 0 < f.f3.length ∧ f.f3.length ≤ 20000 ∧ (∀ c ∈ f.f2, 0 ≤ c.f1 ∧ c.f1 < 200) ∧ ∀ x ∈ f.f3, FineIns f.f3.length x ∧ goodInsB x.f0 x.f1 x.f2 cs.length ps f.f1 f.f2.length f.f3.length = true := by
 have hb := protosBad_mem h.pb f hf
 unfold protoBad at hb
 simp at hb
 obtain ⟨b1, b2, b3, b4, b5, b6⟩ := hb
 have hs := sumCode_mem hf
 have hsm := h.sm
 have hpos : 0 < f.f3.length := List.length_pos_iff.2 b6
 refine ⟨by omega, by omega, by omega, by omega, hpos, by omega, fun c hc => ?_, fun x hx => ?_⟩
 ·
  have := b1 c hc
  unfold capBad at this
  simp at this
  omega
 ·
  have hg := (h.ok f hf).1
  unfold codeOK at hg
  have := List.all_eq_true.1 hg x hx
  exact ⟨fine_of_good this h.n2 h.n1 (by omega) (by omega) (by omega) (by omega), this⟩
theorem dec_ev (v : Int) (h : IntOK v) : Ev (fun k => spec_l5dec.f k v) (decS v) := Ev.bind (f := fun _ t => some (strOfNums t)) (QP.spec_fmt_ev v h.1 h.2) (Ev.now _)
def qtL (xs : List Int) : List Int := [34] ++ xs.flatMap QP.qch ++ [34]
theorem word_all : ∀ op : Fin 28, spec_l5word.f (op.val : Int) = some (rowW op.val) ∧ (rowW op.val).size ≤ 16 := by decide +kernel
theorem str_bytes (s : ByteArray) : strOfNums (bytesOf s) = s := by
 apply ba_ext
 rw [strOfNums_data, bytesOf, List.map_map]
 refine (List.map_congr_left fun x _ => ?_).trans (List.map_id _)
 simp
theorem insS (qt : List Int → List Int) (cs : List S69) (i : Nat) (x : S51) : strOfNums (insL qt cs i x) = lineS ((⟨#[32, 32]⟩ : ByteArray) ++ decS i) (insP qt cs x) ++ (⟨#[10]⟩ : ByteArray) := by
 unfold insL
 rw [lineL_of, show bytesOf (lineS ((⟨#[32, 32]⟩ : ByteArray) ++ decS i) (insP qt cs x)) ++ [10] = bytesOf (lineS ((⟨#[32, 32]⟩ : ByteArray) ++ decS i) (insP qt cs x) ++ (⟨#[10]⟩ : ByteArray)) by rw [bytesOf_app]; rfl, str_bytes]
end Go.Proofs.YtmmpiojekgfdjaaDoor.C
