/- What reads as data of a type is of its kind: for the rows of laws whose arguments are structs and slices of structs. -/
import Derived.ChangeArms
import Derived.Deep.Slices
import Derived.Test.YtogffkekgfkhkaaZvWWords
namespace Go.Proofs.YtogffkekgfkhkaaW.Op
open Go.ChangeShapes Go.WideShapes Go.RowKit Go.Proofs.YtogffkekgfkhkaaW.PrintWords
set_option linter.unusedVariables false
/-- What reads as data of the type t is of the kind k, and meets wf. -/
def Opens {α : Type} (P : Program) (t : TypeId) (k : Kd α) (wf : α → Prop) : Prop :=
  ∀ {H : Type} {enc : TypeId × Value → H} {w : World} {base : Nat} {spare : Nat → Bool} {held : Bool} {fuel : Nat} {cs : List Value} {x : DataW H × List MemPlace},
    DataW.trod enc P w base spare held fuel t cs = some x → ∃ a : α, k.K w a cs ∧ wf a
theorem opens_int {P : Program} {t : TypeId} {k : IntKind} (ht : P.underlying t = some (.int k)) : Opens P t (Kd.int k) (fun n => (Lit.int k n).wf = true) := by
  intro H enc w base spare held fuel cs x h
  obtain ⟨n, rfl, _, hw⟩ := DataW.trod_int ht h
  exact ⟨n, rfl, hw⟩
theorem list_of {α : Type} {p : Nat → α → Prop} : ∀ n, (∀ i, i < n → ∃ y, p i y) → ∃ l : List α, l.length = n ∧ ∀ i y, l[i]? = some y → p i y
  | 0, _ => ⟨[], rfl, fun i y h => by simp at h⟩
  | n + 1, h => by
    obtain ⟨l, hl, hp⟩ := list_of n (fun i hi => h i (by omega))
    obtain ⟨y, hy⟩ := h n (by omega)
    refine ⟨l ++ [y], by simp [hl], fun i z hz => ?_⟩
    rw [List.getElem?_append] at hz
    split at hz
    · exact hp i z hz
    · rename_i hi
      have : i = n := by
        rcases Nat.lt_or_ge (i - l.length) 1 with h1 | h1
        · omega
        · rw [List.getElem?_eq_none (by simpa using h1)] at hz; cases hz
      subst this
      rw [hl, Nat.sub_self] at hz
      simp at hz
      rw [← hz]
      exact hy
theorem opens_slice {α : Type} {P : Program} {t e : TypeId} {k : Kd α} {wf : α → Prop} (ht : P.underlying t = some (.slice e)) (hsz : P.cellsOf e = k.sz) (h : Opens P e k wf) : Opens P t (Kd.slice e k) (fun l => l.length ≤ maxLen ∧ ∀ x ∈ l, wf x) := by
  intro H enc w base spare held fuel cs x hx
  rcases Go.Deep.open_slice ht hx with ⟨rfl, _⟩ | ⟨a, len, cap, m, n, D, Pl, rfl, hb, hl, hm, hmm, rfl, hel⟩
  · exact ⟨[], ⟨none, 0, rfl, Nat.le_refl _, ⟨rfl, by simp, fun h => absurd h (by simp)⟩⟩, by simp, by simp⟩
  · have hlm : len ≤ m := by rw [hmm]; split <;> omega
    obtain ⟨l, hll, hp⟩ := list_of (α := α) (p := fun i y => ∃ cs', w.cells? base (a.add (i * P.cellsOf e)) (P.cellsOf e) = some cs' ∧ k.K w y cs' ∧ wf y) len (fun i hi => by
      obtain ⟨cs', h1, h2⟩ := hel i (by omega)
      obtain ⟨y, h3, h4⟩ := h h2
      exact ⟨y, cs', h1, h3, h4⟩)
    have hlen : l.length ≤ maxLen := by omega
    refine ⟨l, ⟨some a, cap, by rw [hll], by omega, ⟨rfl, by unfold maxLen at hlen; omega, fun _ => ⟨a, rfl, fun j y hj => ?_⟩⟩⟩, hlen, fun y hy => ?_⟩
    · obtain ⟨cs', h1, h2, h3⟩ := hp j y hj
      refine ⟨cs', k.K_len h2, h2, fun i u hu => ?_⟩
      obtain ⟨_, g1, g2⟩ := World.cells?_some h1
      have hi : i < P.cellsOf e := by
        have := (List.getElem?_eq_some_iff.1 hu).1
        omega
      have := g2 i hi
      rw [Go.Deep.add_add, hsz] at this
      rw [this]
      exact hu
    · obtain ⟨i, hi⟩ := List.getElem?_of_mem hy
      obtain ⟨_, _, _, h3⟩ := hp i y hi
      exact h3
/-- A struct's fields, from the offset o on. -/
def OpensF {α : Type} (P : Program) (k : Kd α) (wf : α → Prop) (fs : List Field) (o : Nat) : Prop :=
  ∀ {H : Type} {enc : TypeId × Value → H} {w : World} {base : Nat} {spare : Nat → Bool} {held : Bool} {n : Nat} {cs : List Value} {xs : List (DataW H × List MemPlace)},
    (∀ (i : Nat) (f : Field), fs[i]? = some f → DataW.trod enc P w base spare held n f.type ((cs.drop f.offset).take (P.cellsOf f.type)) = xs[i]?) → xs.length = fs.length → ∃ a, k.K w a ((cs.drop o).take k.sz) ∧ wf a
theorem opensF_one {α : Type} {P : Program} {k : Kd α} {wf : α → Prop} {f : Field} {t : TypeId} {o : Nat} (hft : f.type = t) (ho : f.offset = o) (hs : P.cellsOf t = k.sz) (h : Opens P t k wf) : OpensF P k wf [f] o := by
  intro H enc w base spare held n cs xs hx hl
  have := hx 0 f rfl
  rw [hft, ho, hs, List.getElem?_eq_getElem (by rw [hl]; simp)] at this
  exact h this
theorem opensF_cons {α β : Type} {P : Program} {k : Kd α} {k2 : Kd β} {wf : α → Prop} {wf2 : β → Prop} {f : Field} {fs : List Field} {t : TypeId} {o : Nat} (hft : f.type = t) (ho : f.offset = o) (hs : P.cellsOf t = k.sz) (h : Opens P t k wf) (h2 : OpensF P k2 wf2 fs (o + k.sz)) :
    OpensF P (Kd.pair k k2) (fun x => wf x.1 ∧ wf2 x.2) (f :: fs) o := by
  intro H enc w base spare held n cs xs hx hl
  cases xs with
  | nil => simp at hl
  | cons y ys =>
    have h0 := hx 0 f rfl
    rw [hft, ho, hs] at h0
    obtain ⟨a, ha, wa⟩ := h h0
    obtain ⟨b, hb, wb⟩ := h2 (xs := ys) (fun i g hg => hx (i + 1) g hg) (by simpa using hl)
    refine ⟨(a, b), ⟨_, _, ?_, ha, hb⟩, wa, wb⟩
    show (cs.drop o).take (k.sz + k2.sz) = _
    rw [List.take_add, List.drop_drop]
theorem opens_struct {α β : Type} {P : Program} {t : TypeId} {fs : Array Field} {l : List Field} {k : Kd α} {wf : α → Prop} {f : β → α} (g : α → β) (ht : P.underlying t = some (.struct fs)) (hl : fs.toList = l) (hs : P.cellsOf t = k.sz) (hg : ∀ y, f (g y) = y) (h : OpensF P k wf l 0) : Opens P t (Kd.iso k f) (fun x => wf (f x)) := by
  intro H enc w base spare held fuel cs x hx
  obtain ⟨xs, n, rfl, rfl, hlen, hxs, he⟩ := DataW.trod_struct ht hx
  subst hl
  obtain ⟨a, ha, wa⟩ := h (xs := xs) (fun i f hf => he i f (by simpa using hf)) (by simpa using hxs)
  rw [List.drop_zero, List.take_of_length_le (by omega)] at ha
  refine ⟨g a, ?_, by show wf (f (g a)); rw [hg]; exact wa⟩
  show k.K w (f (g a)) cs
  rw [hg]
  exact ha
end Go.Proofs.YtogffkekgfkhkaaW.Op
