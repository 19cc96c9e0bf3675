/- Sets of fewer than twelve elements: what the kernel reckons out. -/
import Derived.KernelRfl
import Derived.Lib.TrailingZeros
namespace Go.Proofs.YtgickfllblmhpaaDoor
set_option linter.unusedSimpArgs false
set_option linter.unusedVariables false
open Go
/-- How many zero bits stand at the foot. -/
def tzF : Nat → Nat → Nat
  | 0, _ => 0
  | f + 1, x => if x % 2 = 1 then 0 else tzF f (x / 2) + 1
def tz (x : Nat) : Nat := tzF 13 x
/-- The elements of a set, ascending. -/
def lst (x : Nat) : List Nat := (List.range 12).filter fun i => x.testBit i
def beqL : List Nat → List Nat → Bool
  | [], [] => true
  | a :: l, b :: r => Nat.beq a b && beqL l r
  | _, _ => false
theorem beqL_eq : ∀ {l r : List Nat}, beqL l r = true → l = r
  | [], [], _ => rfl
  | a :: l, b :: r, h => by
    simp only [beqL, Bool.and_eq_true] at h
    rw [Nat.eq_of_beq_eq_true h.1, beqL_eq h.2]
  | [], _ :: _, h => by simp [beqL] at h
  | _ :: _, [], h => by simp [beqL] at h
def allTo : Nat → (Nat → Bool) → Bool
  | 0, _ => true
  | n + 1, p => p n && allTo n p
theorem allTo_at : ∀ {n : Nat} {p : Nat → Bool}, allTo n p = true → ∀ x, x < n → p x = true
  | 0, _, _, x, hx => absurd hx (by omega)
  | n + 1, p, h, x, hx => by
    simp only [allTo, Bool.and_eq_true] at h
    rcases Nat.lt_or_eq_of_le (Nat.le_of_lt_succ hx) with hl | rfl
    · exact allTo_at h.2 x hl
    · exact h.1
def lowI (x : Nat) : Nat := (x &&& (18446744073709551616 - x)) * 285870213051353865 % 18446744073709551616 / 288230376151711744
theorem tz_all : (allTo 4096 fun x => Nat.beq x 0 || (Nat.blt (lowI x) 64 && Nat.beq (Lib.deBruijn64tab.getD (lowI x) 0) (tz x))) = true := by kernel_rfl
theorem lst_all : (allTo 4096 fun x => Nat.beq x 0 || (beqL (lst x) (tz x :: lst (x &&& (x - 1))) && Nat.blt (x &&& (x - 1)) x)) = true := by kernel_rfl
theorem len_all : (allTo 4096 fun x => Nat.ble (lst x).length 12) = true := by kernel_rfl
theorem tz_tab {x : Nat} (hx : x < 4096) (h0 : x ≠ 0) : lowI x < 64 ∧ Lib.deBruijn64tab.getD (lowI x) 0 = tz x := by
  have := allTo_at tz_all x hx
  simp only [Bool.or_eq_true, Bool.and_eq_true] at this
  rcases this with h | ⟨h1, h2⟩
  · exact absurd (Nat.eq_of_beq_eq_true h) h0
  · exact ⟨Nat.le_of_ble_eq_true h1, Nat.eq_of_beq_eq_true h2⟩
theorem lst_step {x : Nat} (hx : x < 4096) (h0 : x ≠ 0) : lst x = tz x :: lst (x &&& (x - 1)) ∧ (x &&& (x - 1)) < x := by
  have := allTo_at lst_all x hx
  simp only [Bool.or_eq_true, Bool.and_eq_true] at this
  rcases this with h | ⟨h1, h2⟩
  · exact absurd (Nat.eq_of_beq_eq_true h) h0
  · exact ⟨beqL_eq h1, Nat.le_of_ble_eq_true h2⟩
theorem lst_zero : lst 0 = [] := by decide
theorem lst_len {x : Nat} (hx : x < 4096) : (lst x).length ≤ 12 := Nat.le_of_ble_eq_true (allTo_at len_all x hx)
end Go.Proofs.YtgickfllblmhpaaDoor
