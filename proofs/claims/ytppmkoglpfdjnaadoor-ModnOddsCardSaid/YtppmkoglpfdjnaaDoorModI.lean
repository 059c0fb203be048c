/-
  Walk of modn.Inv, and its plain law. Conditions: numbers fit 64 bits.
-/
import Derived.Test.YtppmkoglpfdjnaaDoorModG
namespace Go.Proofs.YtppmkoglpfdjnaaDoor
open Go.RowKit Go.Shelf
set_option linter.unusedVariables false
theorem ModI_here : True := trivial

/-- Euclid's way with one row of factors, modulo n: what modn.Inv reckons. -/
def sbm (n x z : Nat) : Nat := (x + (n - z % n)) % n
def egc (n : Nat) : Nat → Nat → Nat → Nat → Nat → Nat × Nat
  | 0, r, _, x, _ => (r, x)
  | f + 1, r, s, x, y => if s = 0 then (r, x) else egc n f s (r % s) y (sbm n x (r / s * y % n))
theorem sbm_add (n x z : Nat) (hn : 0 < n) : (sbm n x z + z) % n = x % n := by
  have h1 := Nat.mod_lt z hn
  have h2 := Nat.div_add_mod z n
  unfold sbm
  rw [Nat.add_mod, Nat.mod_mod, ← Nat.add_mod]
  have e : x + (n - z % n) + z = x + n * (z / n + 1) := by rw [Nat.mul_add, Nat.mul_one]; omega
  rw [e, Nat.add_mul_mod_self_left]
theorem cgn {p a b c d : Nat} (h : a % p = b % p) (h' : c % p = d % p) : (a + c) % p = (b + d) % p := by rw [Nat.add_mod, h, h', ← Nat.add_mod]
theorem cgm {p a b c d : Nat} (h : a % p = b % p) (h' : c % p = d % p) : a * c % p = b * d % p := by rw [Nat.mul_mod, h, h', ← Nat.mul_mod]
theorem cgc {p a b c : Nat} (h : (a + c) % p = (b + c) % p) : a % p = b % p := by
  have h1 : ((a : Int) + c) % p = ((b : Int) + c) % p := by exact_mod_cast h
  have h3 : ((a : Int) + c - c) % p = ((b : Int) + c - c) % p := by rw [Int.sub_emod, h1, ← Int.sub_emod]
  rw [show (a : Int) + c - c = a by omega, show (b : Int) + c - c = b by omega] at h3
  exact_mod_cast h3
theorem egc_spec {n a : Nat} (hn : 0 < n) : ∀ (f r s x y : Nat), s < f → a * x % n = r % n → a * y % n = s % n → x < n → y < n → (egc n f r s x y).1 = Nat.gcd r s ∧ a * (egc n f r s x y).2 % n = Nat.gcd r s % n ∧ (egc n f r s x y).2 < n := by
  intro f
  induction f with
  | zero => intro r s x y h; omega
  | succ f ih =>
    intro r s x y hf hx hy hxn hyn
    rw [egc]
    split
    · rename_i hs
      subst hs
      rw [Nat.gcd_zero_right]
      exact ⟨rfl, hx, hxn⟩
    · rename_i hs
      have hlt : r % s < s := Nat.mod_lt _ (by omega)
      have e : Nat.gcd r s = Nat.gcd s (r % s) := by rw [Nat.gcd_comm r s, Nat.gcd_rec s r, Nat.gcd_comm]
      rw [e]
      refine ih s (r % s) y _ (by omega) hy ?_ hyn (Nat.mod_lt _ hn)
      have hd := Nat.div_add_mod r s
      refine cgc (c := a * (r / s * y % n)) ?_
      rw [← Nat.mul_add]
      have h1 : a * (sbm n x (r / s * y % n) + r / s * y % n) % n = a * x % n := cgm rfl (sbm_add n x _ hn)
      have h2 : a * (r / s * y % n) % n = s * (r / s) % n := by
        have h3 : a * (r / s * y % n) % n = a * (r / s * y) % n := cgm rfl (Nat.mod_mod _ _)
        rw [h3, show a * (r / s * y) = (r / s) * (a * y) by grind]
        exact (cgm rfl hy).trans (by rw [Nat.mul_comm])
      rw [h1, hx]
      have h4 : (r % s + a * (r / s * y % n)) % n = (r % s + s * (r / s)) % n := cgn rfl h2
      rw [h4, Nat.add_comm, hd]
/-- What modn.Inv comes to. -/
def invN (a n : Nat) : Nat := (egc n (a % n + 1) n (a % n) 0 (1 % n)).2
theorem invN_fst {a n : Nat} (hn : 0 < n) : (egc n (a % n + 1) n (a % n) 0 (1 % n)).1 = Nat.gcd a n := by
  have h := (egc_spec (a := a) hn (a % n + 1) n (a % n) 0 (1 % n) (by omega) (by rw [Nat.mul_zero, Nat.zero_mod, Nat.mod_self]) (by rw [Nat.mod_mod, Nat.mul_mod, Nat.mod_mod, ← Nat.mul_mod, Nat.mul_one]) hn (Nat.mod_lt _ hn)).1
  rw [h, Nat.gcd_comm n, ← Nat.gcd_rec, Nat.gcd_comm]
theorem invN_spec {a n : Nat} (hn : 0 < n) : a * invN a n % n = Nat.gcd a n % n ∧ invN a n < n := by
  have h := (egc_spec (a := a) hn (a % n + 1) n (a % n) 0 (1 % n) (by omega) (by rw [Nat.mul_zero, Nat.zero_mod, Nat.mod_self]) (by rw [Nat.mod_mod, Nat.mul_mod, Nat.mod_mod, ← Nat.mul_mod, Nat.mul_one]) hn (Nat.mod_lt _ hn))
  refine ⟨?_, h.2.2⟩
  unfold invN
  rw [h.2.1, Nat.gcd_comm n, ← Nat.gcd_rec, Nat.gcd_comm]
/-- Another inverse is the same one. -/
theorem inv_only {a n x y : Nat} (hx : x < n) (hy : y < n) (h1 : a * x % n = 1 % n) (h2 : a * y % n = 1 % n) : x = y := by
  have e : x % n = y % n := by
    have h3 : y * (a * x) % n = y % n := (cgm rfl h1).trans (by rw [Nat.mul_one])
    have h4 : x * (a * y) % n = x % n := (cgm rfl h2).trans (by rw [Nat.mul_one])
    rw [← h3, ← h4]
    congr 1
    grind
  rwa [Nat.mod_eq_of_lt hx, Nat.mod_eq_of_lt hy] at e
theorem inv_gcd {a n y : Nat} (h : a * y % n = 1 % n) : Nat.gcd a n = 1 := by
  have h1 : Nat.gcd a n ∣ a * y := Nat.dvd_trans (Nat.gcd_dvd_left a n) (Nat.dvd_mul_right _ _)
  have h2 : Nat.gcd a n ∣ n := Nat.gcd_dvd_right a n
  have h3 : Nat.gcd a n ∣ a * y % n := (Nat.dvd_mod_iff h2).2 h1
  rw [h] at h3
  exact Nat.dvd_one.1 ((Nat.dvd_mod_iff h2).1 h3)
/-- What modn.Inv hands back. -/
def invR (a n : Nat) : Value := if Nat.gcd a n = 1 then .tuple #[.int .u64 (invN a n : Nat), .bool true] else .tuple #[.int .u64 0, .bool false]
def invE (E : Nat × Nat) : Value := if E.1 = 1 then .tuple #[.int .u64 (E.2 : Nat), .bool true] else .tuple #[.int .u64 0, .bool false]
set_option maxRecDepth 100000 in
set_option maxHeartbeats 4000000 in
theorem minv_zero (a : Nat) (w : World) : Calls Tryd.prog 13 #[.int .u64 a, .int .u64 0] w fun e w' => e = .returned (.tuple #[.int .u64 0, .bool false]) ∧ Below w.heap.size w w' := by
  go_enter Tryd.func13, Tryd.ntmps13
  go_wp2_with fail
  go_ret2
  exact ⟨rfl, Below.refl _ _⟩
set_option maxRecDepth 100000 in
set_option maxHeartbeats 4000000 in
theorem minv_pos (a n : Nat) (ha : a < 18446744073709551616) (hn : n < 18446744073709551616) (hp : 0 < n) (w : World) : Calls Tryd.prog 13 #[.int .u64 a, .int .u64 n] w fun e w' => e = .returned (invR a n) ∧ Below w.heap.size w w' := by
  obtain ⟨t0, t1⟩ := ne0_facts (n := n) (by omega)
  have HM := hide (fun x y (hx : x < 18446744073709551616) (hy : y < 18446744073709551616) W => by
    have h := mmul_any x y n hx hy hn W
    rw [mdn_pos hp] at h
    exact h)
  have HS := hide (fun x y (hx : x < 18446744073709551616) (hy : y < 18446744073709551616) W => by
    have h := msub_any x y n hx hy hn W
    rw [mdn_pos hp, mdn_pos hp] at h
    exact h)
  have hfst := invN_fst (a := a) hp
  obtain ⟨E, hE⟩ : ∃ E, E = egc n (a % n + 1) n (a % n) 0 (1 % n) := ⟨_, rfl⟩
  have hR : invR a n = invE E := by
    rw [invR, invE, hE, hfst]
    rfl
  rw [hR]
  obtain ⟨s0, hs0⟩ : ∃ s, s = a % n := ⟨_, rfl⟩
  obtain ⟨o1, ho1⟩ : ∃ o, o = 1 % n := ⟨_, rfl⟩
  have e1 : (1 : Int) % (n : Int) = (o1 : Int) := by rw [ho1]; rfl
  have e1t : (1 : Int).tmod (n : Int) = (o1 : Int) := by rw [ho1]; rfl
  have e2 : (a : Int) % (n : Int) = (s0 : Int) := by rw [hs0]; rfl
  have e2t : (a : Int).tmod (n : Int) = (s0 : Int) := by rw [hs0]; rfl
  rw [← hs0, ← ho1] at hE
  have hs0n : s0 < n := by rw [hs0]; exact Nat.mod_lt _ hp
  have ho1n : o1 < n := by rw [ho1]; exact Nat.mod_lt _ hp
  have HE := hide hE
  have HP := hide hp
  have HN := hide hn
  have HO := hide ho1n
  have HS0 := hide (show s0 < 18446744073709551616 by omega)
  clear hfst hR hs0 ho1 hE hs0n ho1n hp ha hn
  go_enter Tryd.func13, Tryd.ntmps13
  go_wp2_with fail
  go_quiet (fail)
  go_wp2_with fail
  go_quiet (fail)
  go_wp2_with fail
  go_loopg [6, 7, 8, 9, 10] s0 (fun g v6 v7 v8 v9 v10 wr => ∃ f r s x y : Nat, g = s ∧ v6 = .int .u64 r ∧ v7 = .int .u64 s ∧ v8 = .int .u64 x ∧ v9 = .int .u64 y ∧ Hid (s < f) ∧ Hid (E = egc n f r s x y) ∧ Hid (r < 18446744073709551616) ∧ Hid (s < 18446744073709551616) ∧ Hid (x < n) ∧ Hid (y < n) ∧ Below w.heap.size w wr)
  case atStart => exact ⟨s0 + 1, n, s0, 0, o1, rfl, rfl, rfl, rfl, rfl, hide (by omega), HE, HN, HS0, HP, HO, by (repeat (first | exact Below.refl _ _ | assumption | (refine Below.alloc ?_ (by first | omega | (simp; done) | (simp; omega)) _) | (refine Below.setCell ?_ (by first | omega | (simp; done) | (simp; omega)) _) | refine Below.drew ?_ | refine below_drewN ?_ _))⟩
  case round =>
    obtain ⟨f, r, s, x, y, hg, rfl, rfl, rfl, rfl, hf, hE, hr, hs, hx, hy, B⟩ := hrel
    have HG := hide hg
    clear hg
    by_cases h0 : s = 0
    · subst h0
      have hEE : E = (r, x) := by
        rw [hE.out]
        obtain ⟨f', rfl⟩ : ∃ f', f = f' + 1 := ⟨f - 1, by have := hf.out; omega⟩
        rw [egc, if_pos rfl]
      have HEE := hide hEE
      clear hEE
      by_cases h1 : r = 1
      · have f1 : ((r : Int) != 1) = false := by rw [bne_eq_false_iff_eq]; omega
        have HR1 := hide h1
        clear h1
        go_wp2_with fail
        go_ret2
        exact ⟨by rw [HEE.out, invE, if_pos HR1.out]; rfl, B⟩
      · have f1 : ((r : Int) != 1) = true := by rw [bne_iff_ne]; omega
        have HR1 := hide h1
        clear h1
        go_wp2_with fail
        go_ret2
        exact ⟨by rw [HEE.out, invE, if_neg HR1.out]; rfl, B⟩
    · obtain ⟨k0, k1⟩ := ne0_facts h0
      have k2 : ((s : Int) != 0) = true := by rw [bne_iff_ne]; omega
      have hEE : E = egc n (f - 1) s (r % s) y (sbm n x (r / s * y % n)) := by
        rw [hE.out]
        obtain ⟨f', rfl⟩ : ∃ f', f = f' + 1 := ⟨f - 1, by have := hf.out; omega⟩
        rw [egc, if_neg h0, Nat.add_sub_cancel]
      obtain ⟨q, hq⟩ : ∃ q, q = r / s := ⟨_, rfl⟩
      obtain ⟨m, hm⟩ : ∃ m, m = q * s := ⟨_, rfl⟩
      obtain ⟨d, hd⟩ : ∃ d, d = r % s := ⟨_, rfl⟩
      have hdm : m + d = r := by rw [hm, hd, hq, Nat.mul_comm]; exact Nat.div_add_mod r s
      have hql : q < 18446744073709551616 := Nat.lt_of_le_of_lt (by rw [hq]; exact Nat.div_le_self _ _) hr.out
      have hyl : y < 18446744073709551616 := Nat.lt_trans hy.out HN.out
      have hxl : x < 18446744073709551616 := Nat.lt_trans hx.out HN.out
      have z1 : (r : Int) / (s : Int) = (q : Int) := by rw [hq]; rfl
      have z1t : (r : Int).tdiv (s : Int) = (q : Int) := by rw [hq]; rfl
      have z2 : IntKind.u64.wrap (q : Int) = (q : Int) := wu hql
      have z3 : IntKind.u64.wrap ((q : Int) * (s : Int)) = (m : Int) := wu_mul (by rw [← hm, Nat.mod_eq_of_lt]; have := hr.out; omega)
      have z4 : IntKind.u64.wrap ((r : Int) - (m : Int)) = (d : Int) := by rw [show (r : Int) - (m : Int) = (d : Int) by omega]; exact wu (by have := hr.out; omega)
      have z5 : (r : Int) - (m : Int) = (d : Int) := by omega
      have z6 : IntKind.u64.wrap (d : Int) = (d : Int) := wu (by have := hr.out; omega)
      obtain ⟨u, hu⟩ : ∃ u, u = q * y % n := ⟨_, rfl⟩
      have hul : u < n := by rw [hu]; exact Nat.mod_lt _ HP.out
      obtain ⟨v, hv⟩ : ∃ v, v = sbm n x u := ⟨_, rfl⟩
      have K1 := hide (HM.out q y hql hyl)
      rw [← hu] at K1
      have K2 := hide (HS.out x u hxl (Nat.lt_trans hul HN.out))
      have hvv : (x + (n - u % n)) % n = v := hv.symm
      rw [hvv] at K2
      have HEE := hide (show E = egc n (f - 1) s d y v by rw [hEE, ← hq, ← hd, ← hu, ← hv])
      have HDS := hide (show d < s by rw [hd]; exact Nat.mod_lt _ (by omega))
      have HF := hide (show d < f - 1 by have := hf.out; have := HDS.out; omega)
      have HV := hide (show v < n by rw [hv]; exact Nat.mod_lt _ HP.out)
      have HDM := hide (show d < 18446744073709551616 by have := hr.out; omega)
      clear hEE hq hm hd hdm hql hyl hxl hu hul hv hvv h0
      go_wp2_with fail
      refine (K1.out _).mono ?_
      rintro e w1 ⟨rfl, hb⟩
      replace B : Below w.heap.size w w1 := below_call B (Nat.le_refl _) hb
      clear hb
      go_wp2_with fail
      refine (K2.out _).mono ?_
      rintro e w2 ⟨rfl, hb⟩
      replace B : Below w.heap.size w w2 := below_call B (Nat.le_refl _) hb
      clear hb
      go_wp2_with fail
      go_roundg d
      case measure => rw [HG.out]; exact HDS.out
      case rel => exact ⟨f - 1, s, d, y, v, rfl, rfl, rfl, rfl, rfl, HF, HEE, hs, HDM, hy, HV, B⟩
end Go.Proofs.YtppmkoglpfdjnaaDoor
