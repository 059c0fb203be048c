/-
  Numbers of 64, 128 bits as words: the lowest 64 bits, what is above them, two words as one number. Conditions: none.
-/
import Derived.WalkKit
namespace Go.Proofs.Ytaeebipcgeembaa
set_option linter.unusedVariables false

/-- The lowest 64 bits; the 64 bits above them; what is above the lowest 64, whole; two words as a number. -/
def lo64 (n : Nat) : Nat := n % 18446744073709551616
def hi64 (n : Nat) : Nat := n / 18446744073709551616 % 18446744073709551616
def up64 (n : Nat) : Nat := n / 18446744073709551616
def val2 (h l : Nat) : Nat := h * 18446744073709551616 + l
def m128 (n : Nat) : Nat := n % 340282366920938463463374607431768211456
theorem lo64_lt (n : Nat) : lo64 n < 18446744073709551616 := by unfold lo64; omega
theorem hi64_lt (n : Nat) : hi64 n < 18446744073709551616 := by unfold hi64; omega
theorem val2_lt {h l : Nat} (hh : h < 18446744073709551616) (hl : l < 18446744073709551616) : val2 h l < 340282366920938463463374607431768211456 := by unfold val2; omega
theorem val2_of (n : Nat) : val2 (hi64 n) (lo64 n) = m128 n := by unfold val2 hi64 lo64 m128; omega
theorem hi64_val {h l : Nat} (hh : h < 18446744073709551616) (hl : l < 18446744073709551616) : hi64 (val2 h l) = h := by unfold hi64 val2; omega
theorem lo64_val {h l : Nat} (hl : l < 18446744073709551616) : lo64 (val2 h l) = l := by unfold lo64 val2; omega
theorem hi64_m (n : Nat) : hi64 (m128 n) = hi64 n := by unfold hi64 m128; omega
theorem lo64_m (n : Nat) : lo64 (m128 n) = lo64 n := by unfold lo64 m128; omega
theorem m128_lt (n : Nat) : m128 n < 340282366920938463463374607431768211456 := by unfold m128; omega
theorem m128_id {n : Nat} (h : n < 340282366920938463463374607431768211456) : m128 n = n := by unfold m128; omega
theorem val2_inj {h l h' l' : Nat} (hl : l < 18446744073709551616) (hl' : l' < 18446744073709551616) (e : val2 h l = val2 h' l') : h = h' ∧ l = l' := by unfold val2 at e; omega
/-- It hands back a number of 128 bits, and has written to its own memory alone. -/
def Ret128 (w : World) (X : Nat) (e : Ending) (w' : World) : Prop := e = .returned (.agg #[.int .u64 (hi64 X : Nat), .int .u64 (lo64 X : Nat)]) ∧ Go.RowKit.Below w.heap.size w w'
end Go.Proofs.Ytaeebipcgeembaa
