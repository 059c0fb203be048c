/-
  Walks of chapter 18's functions: at, Check, Eval. Conditions: slices no longer than the form lets them be.
-/
import Derived.Test.YtbgppkgcdmpajaaPolyB
namespace Go.Proofs.Ytbgppkgcdmpajaa
open Go.RowKit Go.Shelf
set_option linter.unusedVariables false

theorem at_p (A : Option Addr) (c n x : Nat) (l : List Nat) (w : World) (hr : Rs w A (us l)) (hl : l.length = n) (hn : n ≤ 1000000) (hw : ∀ y ∈ l, y < 18446744073709551616) (hx : x < 18446744073709551616) :
    Calls Try.prog 67 #[.slice A n c, .int .u64 x] w fun e w' => e = .returned (.int .u64 (pval l x % 2305843009213693951 : Nat)) ∧ Below w.heap.size w w' := by
  have H := hide (divide_p A c n x l w hr hl hn hw hx)
  clear hw
  go_enter Try.func67, Try.ntmps67
  go_wp2_with fail
  refine H.out.mono ?_
  rintro e w3 ⟨A1, c1, rfl, hq, hb⟩
  go_wp2_with fail
  go_ret
  exact ⟨rfl, hb⟩

def badP (x : Nat) : Bool := !decide (x < 2305843009213693951)
theorem bad_p (x : Nat) (w : World) : Calls Try.prog 69 #[.int .u64 x] w fun e w' => e = .returned (.bool (badP x)) ∧ w = w' := by
  have h := Is_any 61 x
  rw [prm61'] at h
  have H := hide h
  clear h
  go_enter Try.func69, Try.ntmps69
  go_wp2_with fail
  with_reducible refine (H.out _).mono ?_
  rintro e w1 ⟨rfl, rfl⟩
  go_wp2_with fail
  go_ret
  exact ⟨ret_b rfl, rfl⟩

set_option maxHeartbeats 400000 in
theorem index_p (A : Option Addr) (c B : Nat) (row : List Nat) (w : World) (hr : Rd w B A (us row)) (hl : row.length ≤ 17592186043904) (nr : Nat) (hnr : row.length = nr) :
    Calls Try.prog 89 #[.slice A nr c, .func (.func 69) #[] #[]] w fun e w' => ∃ r : Int, e = .returned (.int .i64 r) ∧ decide (0 ≤ r) = row.any badP ∧ w = w' := by
  subst hnr
  go_enter Try.func89, Try.ntmps89
  go_wp2
  go_loop [8] (fun i => ∃ k : Nat, k ≤ row.length ∧ i = .int .i64 k ∧ Hid (∀ j (h : j < row.length), j < k → badP row[j] = false)) (fun i => row.length - (intOf i).toNat)
  case atStart => exact ⟨0, Nat.zero_le _, rfl, fun j _ h => absurd h (by omega)⟩
  case round =>
    obtain ⟨k, hk, rfl, hall⟩ := hrel
    by_cases hlt : k < row.length
    · obtain ⟨b, o, rfl, hb, hc⟩ := hr.u hlt
      go_wp2_with (go_at_call 69; refine (bad_p _ _).mono ?_; rintro e w' ⟨rfl, rfl⟩)
      · go_ret
        rename_i hbad
        refine ⟨k, rfl, ?_, rfl⟩
        have : row.any badP = true := List.any_eq_true.2 ⟨_, List.getElem_mem hlt, hbad⟩
        rw [this]; simp
      · rename_i hbad
        go_round
        case rel => exact ⟨k + 1, by omega, by go_num, hide fun j h hj => by
                      by_cases e : j = k
                      · subst e; exact hbad
                      · exact hall.out j h (by omega)⟩
        case measure => simp [intOf]; omega
    · go_wp2_with fail
      go_ret
      have hkb : k = row.length := by omega
      subst hkb
      refine ⟨-1, rfl, ?_, rfl⟩
      have : row.any badP = false := by
        rw [List.any_eq_false]
        intro x hx
        obtain ⟨j, hj, rfl⟩ := List.getElem_of_mem hx
        simp [hall.out j hj hj]
      rw [this]; rfl

theorem contains_p (A : Option Addr) (c B : Nat) (row : List Nat) (w : World) (hr : Rd w B A (us row)) (hl : row.length ≤ 17592186043904) (nr : Nat) (hnr : row.length = nr) :
    Calls Try.prog 68 #[.slice A nr c, .func (.func 69) #[] #[]] w fun e w' => e = .returned (.bool (row.any badP)) ∧ w = w' := by
  subst hnr
  go_enter Try.func68, Try.ntmps68
  go_wp2_with (go_at_call 89; refine (index_p _ _ _ _ _ hr hl _ rfl).mono ?_; rintro e w' ⟨r, rfl, hr2, rfl⟩)
  go_ret
  exact ⟨ret_b rfl, rfl⟩

def chkP (l : List Nat) : Int := if l.length < 1 ∨ 64 < l.length then 1 else if l.any badP = true then 2 else 0
theorem chk_p (A : Option Addr) (c B : Nat) (row : List Nat) (w : World) (hr : Rd w B A (us row)) (hl : row.length ≤ 17592186043904) (nr : Nat) (hnr : row.length = nr) :
    Calls Try.prog 33 #[.slice A nr c] w fun e w' => e = .returned (.int .i64 (chkP row)) ∧ w = w' := by
  subst hnr
  go_enter Try.func33, Try.ntmps33
  go_wp2_with (go_at_call 68; refine (contains_p _ _ _ _ _ hr hl _ rfl).mono ?_; rintro e w' ⟨rfl, rfl⟩)
  all_goals (go_ret; exact ⟨ret_i (by grind [chkP]), rfl⟩)

def evP (l : List Nat) (x : Nat) : Nat × Int := if chkP l ≠ 0 then (0, chkP l) else if 2305843009213693951 ≤ x then (0, 2) else (pval l x % 2305843009213693951, 0)
theorem chk_len {l : List Nat} (h : chkP l = 0) : l.length ≤ 64 := by
  unfold chkP at h
  split at h <;> omega
theorem eval_p (A : Option Addr) (c B : Nat) (l : List Nat) (n x : Nat) (w : World) (hr : Rs w A (us l)) (hl : l.length ≤ 17592186043904) (hn : l.length = n) (hw : ∀ y ∈ l, y < 18446744073709551616) (hx : x < 18446744073709551616) :
    Calls Try.prog 31 #[.slice A n c, .int .u64 x] w fun e w' => e = .returned (.tuple #[.int .u64 (evP l x).1, .int .i64 (evP l x).2]) ∧ Below w.heap.size w w' := by
  have hI := Is_any 61 x
  rw [prm61'] at hI
  have H1 := hide hI
  have H2 := hide (chk_p A c _ l w hr hl n hn)
  have H3 := hide (fun h : n ≤ 1000000 => at_p A c n x l w hr hn h hw)
  have HLE := hide (@chk_len l)
  have HEV := hide (show evP l x = if chkP l ≠ 0 then (0, chkP l) else if 2305843009213693951 ≤ x then (0, 2) else (pval l x % 2305843009213693951, 0) from rfl)
  generalize evP l x = r at *
  obtain ⟨r1, r2⟩ := r
  generalize chkP l = k at *
  generalize pval l x % 2305843009213693951 = v at *
  clear hw hI
  go_enter Try.func31, Try.ntmps31
  go_wp2_with fail
  with_reducible refine H2.out.mono ?_
  rintro e w1 ⟨rfl, rfl⟩
  by_cases hk : k = 0
  · subst hk
    by_cases hp : x < 2305843009213693951
    · have hp1 : decide (x < 2305843009213693951) = true := by simp [hp]
      rw [hp1] at H1
      go_wp2_with ((with_reducible refine (H1.out _).mono ?_); rintro e w1 ⟨rfl, rfl⟩)
      with_reducible refine (H3.out (by have := HLE.out trivial; omega) (by omega)).mono ?_
      rintro e w3 ⟨rfl, hb⟩
      go_wp2_with fail
      go_ret2
      have h := HEV.out
      rw [if_neg (by simp), if_neg (by omega)] at h
      injection h with h1 h2
      subst h1
      subst h2
      exact ⟨rfl, hb⟩
    · have hp1 : decide (x < 2305843009213693951) = false := by simp; omega
      rw [hp1] at H1
      go_wp2_with ((with_reducible refine (H1.out _).mono ?_); rintro e w1 ⟨rfl, rfl⟩)
      go_ret2
      have h := HEV.out
      rw [if_neg (by simp), if_pos (by omega)] at h
      injection h with h1 h2
      subst h1
      subst h2
      exact ⟨rfl, Below.refl _ _⟩
  · have HK := hide hk
    have hk1 : (k != 0) = true := by simp [hk]
    clear hk
    go_wp2_with fail
    go_ret2
    have h := HEV.out
    rw [if_pos HK.out] at h
    injection h with h1 h2
    subst h1
    subst h2
    exact ⟨rfl, Below.refl _ _⟩
end Go.Proofs.Ytbgppkgcdmpajaa
