/-
  Plain facts on bringing numbers of k bits to a range m: the value, the first number brought to it, how many are. Conditions: as each says.
-/
import Derived.Test.YtpfpdlgfngkdjaaWDiv
namespace Go.Proofs.Ytpfpdlgfngkdjaa
set_option linter.unusedVariables false

def chkR (w : Int) (m : Nat) : Int := if w < 1 ∨ 64 < w then 1 else if m = 0 then 8 else 0
theorem chkR_ok {w : Int} {m : Nat} (h : chkR w m = 0) : 1 ≤ w ∧ w ≤ 64 ∧ 0 < m := by
  unfold chkR at h
  split at h
  · omega
  · split at h
    · omega
    · omega
def rdV (x k m : Nat) : Nat := x * m / 2 ^ k
def fstV (v k m : Nat) : Nat := (v * 2 ^ k + (m - 1)) / m
def cntV (v k m : Nat) : Nat := fstV (v + 1) k m - fstV v k m
theorem rdV_lt {x k m : Nat} (hx : x < 2 ^ k) (hm : 0 < m) : rdV x k m < m := Nat.div_lt_of_lt_mul (Nat.mul_lt_mul_of_pos_right hx hm)
theorem rdV_mono {x y k m : Nat} (h : x ≤ y) : rdV x k m ≤ rdV y k m := Nat.div_le_div_right (Nat.mul_le_mul_right _ h)
theorem fstV_le {v k m x : Nat} (hm : 0 < m) : fstV v k m ≤ x ↔ v ≤ rdV x k m := by
  have h1 : fstV v k m ≤ x ↔ v * 2 ^ k ≤ x * m := by
    unfold fstV
    constructor
    · intro h
      have h2 : v * 2 ^ k + (m - 1) < (x + 1) * m := (Nat.div_lt_iff_lt_mul hm).1 (Nat.lt_succ_of_le h)
      rw [Nat.add_mul, Nat.one_mul] at h2
      omega
    · intro h
      refine Nat.le_of_lt_succ ((Nat.div_lt_iff_lt_mul hm).2 ?_)
      rw [Nat.succ_mul]
      omega
  rw [h1]
  unfold rdV
  rw [Nat.le_div_iff_mul_le (Nat.two_pow_pos k)]
theorem fstV_lt {v k m x : Nat} (hm : 0 < m) : x < fstV v k m ↔ rdV x k m < v := by
  rw [← Nat.not_le, fstV_le hm, Nat.not_le]
theorem fstV_mono {v u k m : Nat} (hm : 0 < m) (h : v ≤ u) : fstV v k m ≤ fstV u k m :=
  Nat.div_le_div_right (Nat.add_le_add_right (Nat.mul_le_mul_right _ h) _)
theorem fstV_top (k m : Nat) (hm : 0 < m) : fstV m k m = 2 ^ k := by
  unfold fstV
  rw [Nat.mul_add_div hm, Nat.div_eq_of_lt (by omega), Nat.add_zero]
theorem fstV_bound {v k m : Nat} (hm : 0 < m) (h : v ≤ m) : fstV v k m ≤ 2 ^ k := by rw [← fstV_top k m hm]; exact fstV_mono hm h
/-- A number lies between the first ones of its value and of the next. -/
theorem rank_low (x k m : Nat) (hm : 0 < m) : fstV (rdV x k m) k m ≤ x := (fstV_le hm).2 (Nat.le_refl _)
theorem rank_high (x k m : Nat) (hm : 0 < m) : x < fstV (rdV x k m + 1) k m := (fstV_lt hm).2 (Nat.lt_succ_self _)
theorem rank_cnt (x k m : Nat) (hm : 0 < m) : x - fstV (rdV x k m) k m < cntV (rdV x k m) k m := by
  have h1 := rank_low x k m hm
  have h2 := rank_high x k m hm
  unfold cntV
  omega
theorem unrank_val {v r k m : Nat} (hm : 0 < m) (hr : r < cntV v k m) : rdV (fstV v k m + r) k m = v := by
  unfold cntV at hr
  have h1 : v ≤ rdV (fstV v k m + r) k m := (fstV_le hm).1 (Nat.le_add_right _ _)
  have h2 : rdV (fstV v k m + r) k m < v + 1 := (fstV_lt hm).1 (by omega)
  omega
theorem unrank_small {v r k m : Nat} (hm : 0 < m) (hv : v < m) (hr : r < cntV v k m) : fstV v k m + r < 2 ^ k := by
  unfold cntV at hr
  have := fstV_bound (k := k) hm (show v + 1 ≤ m from hv)
  omega
theorem fstV_up (v k m : Nat) (hm : 0 < m) : fstV v k m = v * 2 ^ k / m + if 0 < v * 2 ^ k % m then 1 else 0 := by
  unfold fstV
  have h1 := Nat.div_add_mod (v * 2 ^ k) m
  have h2 := Nat.mod_lt (v * 2 ^ k) hm
  generalize v * 2 ^ k / m = q at *
  generalize v * 2 ^ k % m = r at *
  rw [← h1, Nat.add_assoc, Nat.mul_add_div hm]
  congr 1
  split
  · rename_i h
    rw [show r + (m - 1) = m + (r - 1) by omega, Nat.add_div_left _ hm, Nat.div_eq_of_lt (by omega)]
  · rename_i h
    rw [show r = 0 by omega, Nat.zero_add, Nat.div_eq_of_lt (by omega)]
theorem cntV_two (v k m : Nat) (hm : 0 < m) : cntV v k m = 2 ^ k / m ∨ cntV v k m = 2 ^ k / m + 1 := by
  unfold cntV fstV
  rw [Nat.add_mul, Nat.one_mul]
  generalize 2 ^ k = N
  rw [show v * N + N + (m - 1) = (v * N + (m - 1)) + N by omega]
  generalize v * N + (m - 1) = A
  have h1 := Nat.div_add_mod A m
  have h2 := Nat.div_add_mod N m
  have h3 := Nat.mod_lt A hm
  have h4 := Nat.mod_lt N hm
  generalize hq : A / m = q at *
  generalize A % m = r at *
  generalize N / m = p at *
  generalize N % m = s at *
  have e : (A + N) / m = q + p + (r + s) / m := by
    rw [← h1, ← h2, show m * q + r + (m * p + s) = m * (q + p) + (r + s) by rw [Nat.mul_add]; omega, Nat.mul_add_div hm]
  rw [e]
  have h5 : (r + s) / m < 2 := Nat.div_lt_of_lt_mul (by omega)
  generalize (r + s) / m = z at *
  have h6 : q + p + z - q = p + z := by omega
  rw [h6]
  rcases (show z = 0 ∨ z = 1 by omega) with h | h
  · exact .inl (by rw [h, Nat.add_zero])
  · exact .inr (by rw [h])
end Go.Proofs.Ytpfpdlgfngkdjaa
