
/- Library functions over slices: IndexFunc, ContainsFunc. -/
import Derived.Test.YteeaccnklkcchaaDoorTy
import Derived.Test.YteeaccnklkcchaaDoorDraw
import Derived.Test.YteeaccnklkcchaaDoorOwn
namespace Go.Proofs.YteeaccnklkcchaaDoor
set_option linter.unusedSimpArgs false
set_option linter.unusedVariables false
open Go
set_option maxRecDepth 100000
def fidx {α : Type} (p : α → Bool) (xs : List α) : Int := match xs.findIdx? p with
  | some i => i
  | none => -1
theorem wrap_succ {k n : Nat} (h : k < n) (hn : n ≤ 9223372036854775807) : IntKind.i64.wrap ((k : Int) + 1) = ((k + 1 : Nat) : Int) := by
  rw [wrap_i64_id] <;> omega
section
variable {α : Type} {p : α → Bool} {xs : List α}
theorem fidx_found {k : Nat} (h : k < xs.length) (hp : p xs[k] = true) (hn : ∀ j (h : j < xs.length), j < k → p xs[j] = false) : fidx p xs = k := by
  have : xs.findIdx? p = some k := by
    rw [List.findIdx?_eq_some_iff_getElem]
    exact ⟨h, hp, fun j hj => by simpa using hn j (by omega) hj⟩
  simp [fidx, this]
theorem fidx_none (hn : ∀ j (h : j < xs.length), p xs[j] = false) : fidx p xs = -1 := by
  have : xs.findIdx? p = none := by
    rw [List.findIdx?_eq_none_iff]
    intro x hx
    obtain ⟨j, hj, rfl⟩ := List.getElem_of_mem hx
    exact hn j hj
  simp [fidx, this]
theorem fidx_any : decide (0 ≤ fidx p xs) = xs.any p := by
  unfold fidx
  cases h : xs.findIdx? p with
  | none =>
    rw [List.findIdx?_eq_none_iff] at h
    simp only
    rw [show xs.any p = false by rw [List.any_eq_false]; intro x hx; simp [h x hx]]
    rfl
  | some i =>
    rw [List.findIdx?_eq_some_iff_getElem] at h
    obtain ⟨hi, hp, _⟩ := h
    simp only
    rw [show xs.any p = true by rw [List.any_eq_true]; exact ⟨_, List.getElem_mem hi, hp⟩]
    simp
end
theorem any_not_all {α : Type} (l : List α) (p : α → Bool) : (l.any fun x => !p x) = !l.all p := by
  induction l with
  | nil => rfl
  | cons a l ih => simp [ih, Bool.not_and]
theorem Sl.at_ {α : Type} {w : World} {B sz : Nat} {k : Option Nat} {v : Value} {l : List α} {enc : α → Value} (h : Sl w B k sz v (l.map enc)) (i : Nat) (hi : i < l.length) : rdv k w (elemAt v sz i) = some (enc l[i]) := by
  have := h.rd i (by simpa using hi)
  simpa using this
theorem Sl.len_ {α : Type} {w : World} {B sz : Nat} {k : Option Nat} {v : Value} {l : List α} {enc : α → Value} (h : Sl w B k sz v (l.map enc)) : SlWf v ∧ isSl v ∧ lenN v = l.length := ⟨h.wf, h.sl, by simpa using h.len⟩
theorem Sl.max_ {α : Type} {w : World} {B sz : Nat} {k : Option Nat} {v : Value} {l : List α} {enc : α → Value} (h : Sl w B k sz v (l.map enc)) : l.length ≤ 9223372036854775807 := by simpa using h.maxLen
end Go.Proofs.YteeaccnklkcchaaDoor
