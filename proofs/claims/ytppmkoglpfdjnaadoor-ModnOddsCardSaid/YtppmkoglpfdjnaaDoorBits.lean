/-
  Walks of the reference's numbers as rows of bits: astragalref01. Conditions: the numbers fit their bits.
-/
import Derived.Test.YtppmkoglpfdjnaaDoorProg
import Derived.Test.YtppmkoglpfdjnaaDoorBase
import Derived.Test.YtppmkoglpfdjnaaDoorBitsM
import Derived.Test.YtppmkoglpfdjnaaDoorWordM
import Derived.Deep.RegionHeld3
namespace Go.Proofs.YtppmkoglpfdjnaaDoor
open Go.RowKit
set_option linter.unusedVariables false

theorem Tryd.infoInt : (Tryd.prog.info? 3).map (fun i => (i.zero, i.size, i.bytes)) = some (some (.int .i64 0), 1, 8) := by kernel_rfl

/-- It hands back a number's bits in a slice of its own. -/
def RetBits (w : World) (X n : Nat) (e : Ending) (w' : World) : Prop :=
  ∃ A c, e = .returned (.slice A n c) ∧ w'.ownsRow w.heap.size 3 1 (.slice A n c) n (is (bitsOf X n)) ∧ Below w.heap.size w w'
def RetBits2 (w : World) (X n : Nat) (k : Int) (e : Ending) (w' : World) : Prop :=
  ∃ A c, e = .returned (.tuple #[.slice A n c, .int .i64 k]) ∧ w'.ownsRow w.heap.size 3 1 (.slice A n c) n (is (bitsOf X n)) ∧ Below w.heap.size w w'

theorem of_walk (x k : Nat) : wrap64 (((x : Int) / 2 ^ k).tmod 2) = ((bt x k : Nat) : Int) := by
  have e : ((x : Int) / 2 ^ k) = ((x / 2 ^ k : Nat) : Int) := by rw [Int.natCast_ediv, Int.natCast_pow]; rfl
  unfold bt
  rw [e]
  generalize x / 2 ^ k = y
  rw [Int.tmod_eq_emod_of_nonneg (by omega), IntWalk.wrap64_in _ (by omega)]
  omega

set_option maxHeartbeats 400000 in
theorem of_any (x : Nat) (m : Int) (n : Nat) (h : m = (n : Int)) (hn : n ≤ 100000) (w : World) (hx : x < 18446744073709551616) :
    Calls Tryd.prog 16 #[.int .u64 x, .int .i64 m] w (RetBits w x n) := by
  subst h
  go_enter Tryd.func16, Tryd.ntmps16
  go_wp2
  go_loopw [5, 6] (fun v i wr => ∃ k : Nat, k ≤ n ∧ i = .int .i64 k ∧ (∃ A c, v = .slice A k c) ∧ wr.ownsRow w.heap.size 3 1 v k (is (bitsOf x k)) ∧ Below w.heap.size w wr) (fun _ i _ => n - (intOf i).toNat)
  case atStart => exact ⟨0, Nat.zero_le _, rfl, ⟨_, _, rfl⟩, World.ownsRow_nil _ _ _ _, Below.refl _ _⟩
  case round =>
    obtain ⟨k, hk, rfl, ⟨A, c, rfl⟩, hown, hbel⟩ := hrel
    by_cases hlt : k < n
    · have ht1 : (k : Int) < (n : Int) := by omega
      by_cases h64 : k < 64
      · have ht2 : (k : Int) < 64 := by omega
        go_wp2_with (at_builtin; (refine wp_append1 rfl _ _ _ rfl w.heap.size 3 _ (.int .i64 0) 8 Tryd.underlying31 Tryd.infoInt rfl _ _ _ _ rfl hown _ rfl rfl (by omega) (by omega) hbel.size ?_))
        intro A' c' w' hown' hb'
        rw [of_walk] at hown'
        go_wp2
        go_roundw
        case rel => exact ⟨k + 1, by omega, by go_num, ⟨_, _, rfl⟩, by rw [bitsOf_succ, is_append]; exact hown', hbel.trans hb'⟩
        case measure => simp [intOf]; omega
      · have ht2 : (64 : Int) ≤ (k : Int) := by omega
        have hz : bt x k = 0 := bt_high (n := 64) hx (by omega)
        have HZ := hide hz; clear hz
        go_wp2_with (at_builtin; (refine wp_append1 rfl _ _ _ rfl w.heap.size 3 _ (.int .i64 0) 8 Tryd.underlying31 Tryd.infoInt rfl _ _ _ _ rfl hown _ rfl rfl (by omega) (by omega) hbel.size ?_))
        intro A' c' w' hown' hb'
        go_wp2
        go_roundw
        case rel => exact ⟨k + 1, by omega, by go_num, ⟨_, _, rfl⟩, by rw [bitsOf_succ, is_append, HZ.out]; exact hown', hbel.trans hb'⟩
        case measure => simp [intOf]; omega
    · have hkn : k = n := by omega
      subst hkn
      go_wp2
      go_ret
      exact ⟨A, c, rfl, hown, hbel⟩

set_option maxRecDepth 100000 in
set_option maxHeartbeats 1000000 in
theorem of2_any (h l : Nat) (w : World) (hh : h < 18446744073709551616) (hl : l < 18446744073709551616) :
    Calls Tryd.prog 9 #[.agg #[.int .u64 h, .int .u64 l]] w (RetBits w (val2 h l) 128) := by
  go_enter Tryd.func9, Tryd.ntmps9
  go_wp2_with fail
  go_region_held3 (fun w' => w'.cell? ⟨w.heap.size, 1, none⟩ = some (.int .u64 l) ∧ w'.cell? ⟨w.heap.size, 0, none⟩ = some (.int .u64 h)) (go_keep) (first | (go_at_call_of 16 l; refine (of_any l 64 64 rfl (by omega) _ hl).mono ?_; rintro e w1 ⟨A1, c1, rfl, hown1, hb1⟩; have hc1 := bcell hb1; have hz1 : w.heap.size < w1.heap.size := by have := hb1.size; simp at this; omega) | (go_at_call_of 16 h; refine (of_any h 64 64 rfl (by omega) _ hh).mono ?_; rintro e w2 ⟨A2, c2, rfl, hown2, hb2⟩; have hc2 := bcell hb2) | (refine step_appendN (by rfl) _ _ _ (by rfl) (w.heap.size + 1) 3 (.int .i64 0) 8 Tryd.underlying31 Tryd.infoInt rfl A1 64 c1 _ (by rfl) (own_lower (own_call hown1 hb2) (by simp)) A2 64 c2 _ _ (by rfl) (by rw [len_is, len_bitsOf]) (Rd.of_own hown2) (one_is _) (by omega) (by omega) (by have := hb1.size; have := hb2.size; simp at *; omega) ?_; intro A' c' w' hown' hb'; have hc3 : ∀ b o, b < w.heap.size + 1 → w'.cell? ⟨b, o, none⟩ = w2.cell? ⟨b, o, none⟩ := fun b o h => hb'.cell (p := ⟨b, o, none⟩) h))
  go_wp2
  go_ret
  refine ⟨A', c', rfl, ?_, ?_⟩
  · have e := bitsOf_join l h 64 64 hl
    rw [show l + 2 ^ 64 * h = val2 h l by unfold val2; omega] at e
    rw [show (128 : Nat) = 64 + 64 from rfl, ← e, is_append]
    exact own_lower hown' (by omega)
  · have h1 : Below w.heap.size w (w.alloc (.cells #[.int .u64 (h : Int), .int .u64 (l : Int)] 24)).drew := ((Below.refl _ w).alloc (Nat.le_refl _) _).drew
    exact (h1.trans (hb1.mono (by simp))).trans ((hb2.mono (by omega)).trans (hb'.mono (by omega)))

/-- A bit, or 0 where there is none. -/
def btI (X : Nat) (i : Int) : Nat := if i < 0 then 0 else bt X i.toNat
theorem btI_nat (X k : Nat) : btI X (k : Int) = bt X k := by unfold btI; rw [if_neg (by omega)]; simp
theorem at_any (A : Option Addr) (n c B X : Nat) (i : Int) (w : World) (hr : Rd w B A (is (bitsOf X n))) (hX : X < 2 ^ n) (hn : n ≤ 100000) :
    Calls Tryd.prog 24 #[.slice A n c, .int .i64 i] w fun e w' => e = .returned (.int .i64 (btI X i : Nat)) ∧ w = w' := by
  by_cases h1 : i < 0
  · have e : btI X i = 0 := by simp [btI, h1]
    rw [e]
    clear hX
    go_enter Tryd.func24, Tryd.ntmps24
    go_wp2
    go_ret
    exact ⟨rfl, rfl⟩
  · obtain ⟨k, rfl⟩ := Int.eq_ofNat_of_zero_le (show 0 ≤ i by omega)
    rw [btI_nat]
    by_cases h2 : k < n
    · obtain ⟨b, o, rfl, hb, hc⟩ := hr.i (k := k) (by rw [len_bitsOf]; exact h2)
      rw [get_bitsOf] at hc
      have h3 : (k : Int) < (n : Int) := by omega
      clear hX
      go_enter Tryd.func24, Tryd.ntmps24
      go_wp2
      go_ret
      exact ⟨rfl, rfl⟩
    · have e : bt X k = 0 := bt_high hX (by omega)
      rw [e]
      have h3 : (n : Int) ≤ (k : Int) := by omega
      clear hX e
      go_enter Tryd.func24, Tryd.ntmps24
      go_wp2
      go_ret
      exact ⟨rfl, rfl⟩
theorem at_nat (A : Option Addr) (n c B X k : Nat) (w : World) (hr : Rd w B A (is (bitsOf X n))) (hX : X < 2 ^ n) (hn : n ≤ 100000) :
    Calls Tryd.prog 24 #[.slice A n c, .int .i64 k] w fun e w' => e = .returned (.int .i64 (bt X k : Nat)) ∧ w = w' := by
  have := at_any A n c B X k w hr hX hn
  rwa [btI_nat] at this

set_option maxHeartbeats 400000 in
theorem add_ref (A A' : Option Addr) (p c q c' B B' X Y : Nat) (m : Int) (n : Nat) (h : m = (n : Int)) (hn : n ≤ 100000) (hp : p ≤ 100000) (hq : q ≤ 100000) (w : World) (hr : Rd w B A (is (bitsOf X p))) (hr' : Rd w B' A' (is (bitsOf Y q)))
    (hX : X < 2 ^ p) (hY : Y < 2 ^ q) (hB : B ≤ w.heap.size) (hB' : B' ≤ w.heap.size) :
    Calls Tryd.prog 17 #[.slice A p c, .slice A' q c', .int .i64 m] w (RetBits2 w (X + Y) n (carry X Y n : Nat)) := by
  subst h
  have HX := hide hX; have HY := hide hY
  clear hX hY
  go_enter Tryd.func17, Tryd.ntmps17
  go_wp2
  go_loopw [8, 9, 10] (fun v cy i wr => ∃ k C : Nat, k ≤ n ∧ i = .int .i64 k ∧ cy = .int .i64 C ∧ C ≤ 1 ∧ Hid (C = carry X Y k) ∧ (∃ A c, v = .slice A k c) ∧ wr.ownsRow w.heap.size 3 1 v k (is (bitsOf (X + Y) k)) ∧ Below w.heap.size w wr) (fun _ _ i _ => n - (intOf i).toNat)
  case atStart => exact ⟨0, 0, Nat.zero_le _, rfl, rfl, by omega, hide (carry_zero _ _).symm, ⟨_, _, rfl⟩, World.ownsRow_nil _ _ _ _, Below.refl _ _⟩
  case round =>
    obtain ⟨k, C, hk, rfl, rfl, hC, hH, ⟨A2, c2, rfl⟩, hown, hbel⟩ := hrel
    by_cases hlt : k < n
    · have ht1 : (k : Int) < (n : Int) := by omega
      have r1 := hr.below (hbel.mono hB); have r2 := hr'.below (hbel.mono hB')
      have b1 := bt_le X k; have b2 := bt_le Y k
      go_wp2_with fail
      refine (at_nat _ _ _ _ _ _ _ r1 HX.out hp).mono ?_
      rintro e w' ⟨rfl, rfl⟩
      go_wp2_with fail
      refine (at_nat _ _ _ _ _ _ _ r2 HY.out hq).mono ?_
      rintro e w' ⟨rfl, rfl⟩
      go_wp2_with (at_builtin; (refine wp_append1 rfl _ _ _ rfl w.heap.size 3 _ (.int .i64 0) 8 Tryd.underlying31 Tryd.infoInt rfl _ _ _ _ rfl hown _ rfl rfl (by omega) (by omega) hbel.size ?_))
      intro A' c' w' hown' hb'
      go_wp2
      go_roundw
      case rel =>
        have e1 := add_bit X Y k; have e2 := add_carry X Y k
        rw [← hH.out] at e1 e2
        refine ⟨k + 1, (bt X k + bt Y k + C) / 2, by omega, by go_num, val_i (by omega), by omega, hide e2, ⟨_, _, rfl⟩, ?_, hbel.trans hb'⟩
        rw [bitsOf_succ, is_append, ← e1]
        have e3 : (((bt X k + bt Y k + C) % 2 : Nat) : Int) = ((bt X k : Int) + (bt Y k : Int) + (C : Int)) % 2 := by omega
        rw [e3]
        exact hown'
      case measure => simp [intOf]; omega
    · have hkn : k = n := by omega
      subst hkn
      go_wp2
      go_ret2
      exact ⟨A2, c2, by rw [hH.out]; rfl, hown, hbel⟩

set_option maxHeartbeats 400000 in
theorem shl_ref (A : Option Addr) (p c B X : Nat) (by_ : Int) (k0 : Nat) (hk0 : by_ = (k0 : Int)) (hk1 : k0 ≤ 100000) (m : Int) (n : Nat) (h : m = (n : Int)) (hn : n ≤ 100000) (hp : p ≤ 100000) (w : World) (hr : Rd w B A (is (bitsOf X p)))
    (hX : X < 2 ^ p) (hB : B ≤ w.heap.size) :
    Calls Tryd.prog 18 #[.slice A p c, .int .i64 by_, .int .i64 m] w (RetBits w (X * 2 ^ k0) n) := by
  subst h; subst hk0
  have HX := hide hX
  clear hX
  go_enter Tryd.func18, Tryd.ntmps18
  go_wp2
  go_loopw [7, 8] (fun v i wr => ∃ k : Nat, k ≤ n ∧ i = .int .i64 k ∧ (∃ A c, v = .slice A k c) ∧ wr.ownsRow w.heap.size 3 1 v k (is (bitsOf (X * 2 ^ k0) k)) ∧ Below w.heap.size w wr) (fun _ i _ => n - (intOf i).toNat)
  case atStart => exact ⟨0, Nat.zero_le _, rfl, ⟨_, _, rfl⟩, World.ownsRow_nil _ _ _ _, Below.refl _ _⟩
  case round =>
    obtain ⟨k, hk, rfl, ⟨A2, c2, rfl⟩, hown, hbel⟩ := hrel
    by_cases hlt : k < n
    · have ht1 : (k : Int) < (n : Int) := by omega
      have r1 := hr.below (hbel.mono hB)
      have he : btI X ((k : Int) - (k0 : Int)) = bt (X * 2 ^ k0) k := by
        rw [shl_bit]
        unfold btI
        by_cases hlt2 : k < k0
        · rw [if_pos hlt2, if_pos (by omega)]
        · rw [if_neg hlt2, if_neg (by omega)]
          congr 1
          omega
      have HE := hide he; clear he
      go_wp2_with fail
      refine (at_any _ _ _ _ _ _ _ r1 HX.out hp).mono ?_
      rintro e w' ⟨rfl, rfl⟩
      rw [HE.out]
      go_wp2_with (at_builtin; (refine wp_append1 rfl _ _ _ rfl w.heap.size 3 _ (.int .i64 0) 8 Tryd.underlying31 Tryd.infoInt rfl _ _ _ _ rfl hown _ rfl rfl (by omega) (by omega) hbel.size ?_))
      intro A' c' w' hown' hb'
      go_wp2
      go_roundw
      case rel => exact ⟨k + 1, by omega, by go_num, ⟨_, _, rfl⟩, by rw [bitsOf_succ, is_append]; exact hown', hbel.trans hb'⟩
      case measure => simp [intOf]; omega
    · have hkn : k = n := by omega
      subst hkn
      go_wp2
      go_ret
      exact ⟨A2, c2, rfl, hown, hbel⟩
end Go.Proofs.YtppmkoglpfdjnaaDoor
