/- What reads as data of a type is of its kind: for the rows of laws whose arguments are structs and slices of structs. -/
import Derived.ChangeArms
import Derived.Deep.Slices
import Derived.Test.YtmmpiojekgfdjaaZlWWords
namespace Go.Proofs.YtmmpiojekgfdjaaW.Op
open Go.ChangeShapes Go.WideShapes Go.RowKit YtmmpiojekgfdjaaW.PrintWords
set_option linter.unusedVariables false
def Opens {α : Type} (P : Program) (t : TypeId) (k : Kd α) (wf : α → Prop) : Prop :=
 ∀ {H : Type} {enc : TypeId × Value → H} {w : World} {base : Nat} {spare : Nat → Bool} {held : Bool} {fuel : Nat} {cs : List Value} {x : DataW H × List MemPlace},
  DataW.trod enc P w base spare held fuel t cs = some x → ∃ a : α, k.K w a cs ∧ wf a
theorem opens_int {P : Program} {t : TypeId} {k : IntKind} (ht : P.underlying t = some (.int k)) : Opens P t (Kd.int k) (fun n => (Lit.int k n).wf = true) := by
 intro H enc w base spare held fuel cs x h
 obtain ⟨n, rfl, _, hw⟩ := DataW.trod_int ht h
 exact ⟨n, rfl, hw⟩
theorem list_of {α : Type} {p : Nat → α → Prop} : ∀ n, (∀ i, i < n → ∃ y, p i y) → ∃ l : List α, l.length = n ∧ ∀ i y, l[i]? = some y → p i y
 | 0, _ => ⟨[], rfl, fun i y h => by simp at h⟩
 | n + 1, h => by
  obtain ⟨l, hl, hp⟩ := list_of n (fun i hi => h i (by omega))
  obtain ⟨y, hy⟩ := h n (by omega)
  refine ⟨l ++ [y], by simp [hl], fun i z hz => ?_⟩
  rw [List.getElem?_append] at hz
  split at hz
  ·
   exact hp i z hz
  ·
   rename_i hi
   have : i = n := by
    rcases Nat.lt_or_ge (i - l.length) 1 with h1 | h1
    ·
     omega
    ·
     rw [List.getElem?_eq_none (by simpa using h1)] at hz; cases hz
   subst this
   rw [hl, Nat.sub_self] at hz
   simp at hz
   rw [← hz]
   exact hy
theorem opens_slice {α : Type} {P : Program} {t e : TypeId} {k : Kd α} {wf : α → Prop} (ht : P.underlying t = some (.slice e)) (hsz : P.cellsOf e = k.sz) (h : Opens P e k wf) : Opens P t (Kd.slice e k) (fun l => l.length ≤ maxLen ∧ ∀ x ∈ l, wf x) := by
 intro H enc w base spare held fuel cs x hx
 rcases Go.Deep.open_slice ht hx with ⟨rfl, _⟩ | ⟨a, len, cap, m, n, D, Pl, rfl, hb, hl, hm, hmm, rfl, hel⟩
 ·
  exact ⟨[], ⟨none, 0, rfl, Nat.le_refl _, ⟨rfl, by simp, fun h => absurd h (by simp)⟩⟩, by simp, by simp⟩
 ·
  have hlm : len ≤ m := by rw [hmm]; split <;> omega
  obtain ⟨l, hll, hp⟩ := list_of (α := α) (p := fun i y => ∃ cs', w.cells? base (a.add (i * P.cellsOf e)) (P.cellsOf e) = some cs' ∧ k.K w y cs' ∧ wf y) len (fun i hi => by
   obtain ⟨cs', h1, h2⟩ := hel i (by omega)
   obtain ⟨y, h3, h4⟩ := h h2
   exact ⟨y, cs', h1, h3, h4⟩)
  have hlen : l.length ≤ maxLen := by omega
  refine ⟨l, ⟨some a, cap, by rw [hll], by omega, ⟨rfl, by unfold maxLen at hlen; omega, fun _ => ⟨a, rfl, fun j y hj => ?_⟩⟩⟩, hlen, fun y hy => ?_⟩
  ·
   obtain ⟨cs', h1, h2, h3⟩ := hp j y hj
   refine ⟨cs', k.K_len h2, h2, fun i u hu => ?_⟩
   obtain ⟨_, g1, g2⟩ := World.cells?_some h1
   have hi : i < P.cellsOf e := by
    have := (List.getElem?_eq_some_iff.1 hu).1
    omega
   have := g2 i hi
   rw [Go.Deep.add_add, hsz] at this
   rw [this]
   exact hu
  ·
   obtain ⟨i, hi⟩ := List.getElem?_of_mem hy
   obtain ⟨_, _, _, h3⟩ := hp i y hi
   exact h3
end Go.Proofs.YtmmpiojekgfdjaaW.Op
