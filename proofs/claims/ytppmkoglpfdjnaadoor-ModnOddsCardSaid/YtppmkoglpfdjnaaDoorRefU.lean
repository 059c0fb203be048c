/-
  Contracts of the reference's rows of bits, in the form in which the laws take them: what a call hands back reads as so many bits of a number. Conditions: as each says.
-/
import Derived.Test.YtppmkoglpfdjnaaDoorBitsC
import Derived.Test.YtppmkoglpfdjnaaDoorBox
namespace Go.Proofs.YtppmkoglpfdjnaaDoor
open Go.RowKit
set_option linter.unusedVariables false

theorem Rs.go {w w1 : World} {A : Option Addr} {xs : List Value} (hb : Below w.heap.size w w1) (h : Rs w A xs) : Rs w1 A xs := Rs.call h hb
/-- It hands back a slice that reads as n bits of X, and has written to its own memory alone. -/
def RetB (w : World) (X n : Nat) (e : Ending) (w' : World) : Prop := ∃ A c, e = .returned (.slice A n c) ∧ Rs w' A (is (bitsOf X n)) ∧ Below w.heap.size w w'
/-- The same, beside a number. -/
def RetBI (w : World) (X n : Nat) (k : Int) (e : Ending) (w' : World) : Prop := ∃ A c, e = .returned (.tuple #[.slice A n c, .int .i64 k]) ∧ Rs w' A (is (bitsOf X n)) ∧ Below w.heap.size w w'
theorem RetB.of {w : World} {X Y n : Nat} (h : ∀ i, i < n → bt X i = bt Y i) {e : Ending} {w' : World} (hr : RetBits w X n e w') : RetB w Y n e w' := by
  obtain ⟨A, c, he, hown, hb⟩ := hr
  exact ⟨A, c, he, by rw [← bitsOf_congr h]; exact Rs.of_own hown, hb⟩
theorem RetBI.of {w : World} {X Y n : Nat} {k k' : Int} (h : ∀ i, i < n → bt X i = bt Y i) (hk : k = k') {e : Ending} {w' : World} (hr : RetBits2 w X n k e w') : RetBI w Y n k' e w' := by
  obtain ⟨A, c, he, hown, hb⟩ := hr
  subst hk
  exact ⟨A, c, he, by rw [← bitsOf_congr h]; exact Rs.of_own hown, hb⟩
theorem bt_congr {X Y n : Nat} (h : X % 2 ^ n = Y % 2 ^ n) (i : Nat) (hi : i < n) : bt X i = bt Y i := by rw [← bt_mod X n i hi, h, bt_mod Y n i hi]
theorem two128 : (2 : Nat) ^ 128 = 340282366920938463463374607431768211456 := by decide
theorem m128_pow (X : Nat) : m128 X = X % 2 ^ 128 := by rw [two128]; rfl
theorem rs_mod {w : World} {A : Option Addr} {X n : Nat} (h : Rs w A (is (bitsOf X n))) : Rs w A (is (bitsOf (X % 2 ^ n) n)) := by rw [bitsOf_mod]; exact h
theorem rs_m128 {w : World} {A : Option Addr} {X : Nat} (h : Rs w A (is (bitsOf (m128 X) 128))) : Rs w A (is (bitsOf X 128)) := by rw [m128_pow, bitsOf_mod] at h; exact h

theorem of_u (x : Nat) (m : Int) (n : Nat) (hm : m = (n : Int)) (hn : n ≤ 100000) (w : World) (hx : x < 18446744073709551616) : Calls Tryd.prog 16 #[.int .u64 x, .int .i64 m] w (RetB w x n) :=
  (of_any x m n hm hn w hx).mono fun _ _ h => RetB.of (fun _ _ => rfl) h
theorem of2_u (X : Nat) (w : World) : Calls Tryd.prog 9 #[.agg #[.int .u64 (hi64 (X) : Nat), .int .u64 (lo64 (X) : Nat)]] w (RetB w X 128) :=
  (of2_any _ _ w (hi64_lt X) (lo64_lt X)).mono fun _ _ h => RetB.of (bt_congr (by rw [val2_of, m128_pow, Nat.mod_mod])) h
theorem to2_u (A : Option Addr) (c X : Nat) (w : World) (hr : Rs w A (is (bitsOf X 128))) : Calls Tryd.prog 7 #[.slice A 128 c] w (Ret128 w X) :=
  (to2_any A 128 c w.heap.size (X % 2 ^ 128) w (rs_mod hr) (Nat.mod_lt _ (Nat.two_pow_pos _)) (by omega) (Nat.le_refl _)).mono fun e w' ⟨he, hb⟩ => ⟨by rw [he, ← m128_pow, hi64_m, lo64_m], hb⟩
theorem carry_m (X Y n : Nat) : carry (X % 2 ^ n) (Y % 2 ^ n) n = carry X Y n := by unfold carry; rw [Nat.mod_mod, Nat.mod_mod]
theorem add_u (A A' : Option Addr) (c c' X Y : Nat) (w : World) (hr : Rs w A (is (bitsOf X 128))) (hr' : Rs w A' (is (bitsOf Y 128))) :
    Calls Tryd.prog 17 #[.slice A 128 c, .slice A' 128 c', .int .i64 128] w (RetBI w (X + Y) 128 (carry X Y 128 : Nat)) :=
  (add_ref A A' 128 c 128 c' _ _ (X % 2 ^ 128) (Y % 2 ^ 128) 128 128 rfl (by omega) (by omega) (by omega) w (rs_mod hr) (rs_mod hr') (Nat.mod_lt _ (Nat.two_pow_pos _)) (Nat.mod_lt _ (Nat.two_pow_pos _)) (Nat.le_refl _) (Nat.le_refl _)).mono
    fun _ _ h => RetBI.of (bt_congr (by rw [← Nat.add_mod])) (by rw [carry_m]) h
theorem mul_u (A A' : Option Addr) (c c' X Y : Nat) (w : World) (hr : Rs w A (is (bitsOf X 128))) (hr' : Rs w A' (is (bitsOf Y 128))) :
    Calls Tryd.prog 8 #[.slice A 128 c, .slice A' 128 c', .int .i64 128] w (RetB w (X * Y) 128) :=
  (mul_ref A A' 128 c 128 c' (X % 2 ^ 128) (Y % 2 ^ 128) 128 128 rfl (by omega) (by omega) (by omega) w (rs_mod hr) (rs_mod hr') (Nat.mod_lt _ (Nat.two_pow_pos _)) (Nat.mod_lt _ (Nat.two_pow_pos _))).mono
    fun _ _ h => RetB.of (bt_congr (by rw [Nat.mod_mod, ← Nat.mul_mod])) h
/-- Whole sums, differences and products, of numbers that fit their bits. -/
theorem add_r (A A' : Option Addr) (p c q c' X Y : Nat) (m : Int) (n : Nat) (h : m = (n : Int)) (w : World) (hr : Rs w A (is (bitsOf X p))) (hr' : Rs w A' (is (bitsOf Y q))) (hX : X < 2 ^ p) (hY : Y < 2 ^ q) (hn : n ≤ 1000) (hp : p ≤ 1000) (hq : q ≤ 1000) :
    Calls Tryd.prog 17 #[.slice A p c, .slice A' q c', .int .i64 m] w (RetBI w (X + Y) n (carry X Y n : Nat)) :=
  (add_ref A A' p c q c' _ _ X Y m n h (by omega) (by omega) (by omega) w hr hr' hX hY (Nat.le_refl _) (Nat.le_refl _)).mono fun _ _ h => RetBI.of (fun _ _ => rfl) rfl h
theorem mul_r (A A' : Option Addr) (p c q c' X Y : Nat) (m : Int) (n : Nat) (h : m = (n : Int)) (w : World) (hr : Rs w A (is (bitsOf X p))) (hr' : Rs w A' (is (bitsOf Y q))) (hX : X < 2 ^ p) (hY : Y < 2 ^ q) (hn : n ≤ 1000) (hp : p ≤ 1000) (hq : q ≤ 1000) :
    Calls Tryd.prog 8 #[.slice A p c, .slice A' q c', .int .i64 m] w (RetB w (X * Y) n) :=
  (mul_ref A A' p c q c' X Y m n h hn hp hq w hr hr' hX hY).mono fun _ _ h => RetB.of (fun i hi => bt_mod _ n i hi) h
end Go.Proofs.YtppmkoglpfdjnaaDoor
