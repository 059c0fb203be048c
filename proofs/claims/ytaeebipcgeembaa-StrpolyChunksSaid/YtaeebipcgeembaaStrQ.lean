/-
  The reference's Monic, Eval, Goes. Conditions: bytes; words.
-/
import Derived.Test.YtaeebipcgeembaaStrO
import Derived.Test.YtaeebipcgeembaaPolyR
namespace Go.Proofs.Ytaeebipcgeembaa
open Go.RowKit
set_option linter.unusedVariables false

/-- The coefficients of a text, the lowest first. -/
def monicN (bs : List Nat) : List Nat := (chunksN bs).reverse ++ [1]
theorem len_monicN (bs : List Nat) : (monicN bs).length = (chunksN bs).length + 1 := by simp [monicN]
theorem monicN_lt (bs : List Nat) (hby : ∀ x ∈ bs, x < 256) : ∀ y ∈ monicN bs, y < 72057594037927936 := fun y hy => by
  rcases List.mem_append.1 hy with h | h
  · exact chunksN_lt bs hby y (List.mem_reverse.1 h)
  · obtain rfl : y = 1 := by simpa using h
    omega
theorem hor_pval (a : Nat) (l : List Nat) : horN a l = pval (l.reverse ++ [1]) a % 2305843009213693951 := by
  obtain ⟨r, rfl⟩ : ∃ r, l = r.reverse := ⟨l.reverse, by simp⟩
  rw [List.reverse_reverse]
  induction r with
  | nil => simp [horN, pval]
  | cons x r ih =>
    rw [List.reverse_cons, horN_snoc, ih]
    show goesN a _ x = (x + a * pval (r ++ [1]) a) % 2305843009213693951
    unfold goesN
    rw [Nat.add_comm x, Nat.mul_comm a]
    rw [Nat.add_mod, Nat.mod_mod, Nat.mul_mod, Nat.mod_mod, ← Nat.mul_mod, ← Nat.add_mod]
set_option maxRecDepth 100000 in
set_option maxHeartbeats 4000000 in
theorem monic_r (bs : List Nat) (hby : ∀ x ∈ bs, x < 256) (A : Option Addr) (c m : Nat) (w : World) (hm : bs.length = m) (hm2 : m ≤ 4096) (hr : Rs w A (by8 bs)) :
    Calls Try.prog 25 #[.slice A m c] w (RetL w (monicN bs)) := by
  have hC := chunks_r bs hby A c m w hm hm2 hr
  have hll := len_chunksN bs
  have HL := hide (len_monicN bs)
  have HE := hide (show (chunksN bs).reverse ++ [1] = monicN bs from rfl)
  generalize monicN bs = R at *
  generalize chunksN bs = L at *
  have hl5 : L.length ≤ 5000 := by omega
  clear hm2 hm hr hby hll
  obtain ⟨n, hn⟩ : ∃ n, L.length = n := ⟨_, rfl⟩
  unfold RetL at hC
  rw [hn] at hC hl5
  have HN := hide hn
  clear hn
  go_enter Try.func25, Try.ntmps25
  go_wp2_with (go_at_call 17; (with_reducible refine hC.mono ?_); rintro e w2 ⟨A2, c2, rfl, hq, hb2⟩)
  have e0 : IntKind.i64.wrap ((n : Int) - 1) = (n : Int) - 1 := by
    simp only [IntKind.wrap, IntKind.signed, IntKind.bits]
    simp
    omega
  clear hC
  go_loopg [4, 5] n (fun g v4 v5 wr => ∃ (k j : Nat) (A1 : Option Addr) (c1 : Nat), g = k ∧ k + j = n ∧ v5 = .int .i64 ((k : Int) - 1) ∧ v4 = .slice A1 j c1 ∧ wr.ownsRow w2.heap.size 22 1 (.slice A1 j c1) j (us (L.reverse.take j)) ∧ Below w2.heap.size w2 wr)
  case atStart => exact ⟨n, 0, _, _, rfl, rfl, by simp, rfl, World.ownsRow_nil _ _ _ _, Below.refl _ _⟩
  case round =>
    obtain ⟨k, j, A1, c1, hg, hkj, rfl, rfl, hown, B⟩ := hrel
    have HG := hide hg
    clear hg
    cases k with
    | zero =>
      obtain ⟨i, hi⟩ : ∃ i : Int, i = ((0 : Nat) : Int) - 1 := ⟨_, rfl⟩
      rw [← hi]
      have t1 : ¬ (0 : Int) ≤ i := by omega
      clear hi
      obtain rfl : j = n := by omega
      have HALL := hide (show us (L.reverse.take j) ++ [.int .u64 1] = us R by
        rw [← HE.out, List.take_of_length_le (by rw [List.length_reverse, HN.out]; exact Nat.le_refl _), us_append]
        rfl)
      go_wp2_with (at_builtin; (refine wp_append1 rfl _ _ _ rfl w2.heap.size 22 _ (.int .u64 0) 8 Try.underlying33 Try.infoU64' rfl _ _ _ _ rfl hown _ rfl rfl (by omega) (by omega) B.size ?_))
      intro A3 c3 w4 hown2 hb4
      rw [HALL.out] at hown2
      go_wp2_with fail
      go_ret
      exact ⟨A3, c3, by rw [HL.out, HN.out]; rfl, Rs.of_own hown2, (below_call hb2 (Nat.le_refl _) (B.trans hb4))⟩
    | succ k =>
      have hkl : k < L.length := by rw [HN.out]; omega
      obtain ⟨b, o, rfl, hbb, hc⟩ := (hq.below B).u (k := k) hkl
      have HT := hide (show L.reverse.take (j + 1) = L.reverse.take j ++ [L[k]] by
        rw [List.take_succ_eq_append_getElem (by rw [List.length_reverse]; have := HN.out; omega)]
        congr 2
        rw [List.getElem_reverse]
        congr 1
        have := HN.out
        omega)
      generalize L[k] = v at *
      have ei : (((k + 1 : Nat) : Int) - 1) = (k : Int) := by omega
      rw [ei]
      have t1 : (0 : Int) ≤ (k : Int) := by omega
      have t2 : (k : Int) < (n : Int) := by omega
      have e5 : IntKind.i64.wrap ((k : Int) - 1) = (k : Int) - 1 := by
        simp only [IntKind.wrap, IntKind.signed, IntKind.bits]
        simp
        omega
      clear ei hkl
      go_wp2_with (at_builtin; (refine wp_append1 rfl _ _ _ rfl w2.heap.size 22 _ (.int .u64 0) 8 Try.underlying33 Try.infoU64' rfl _ _ _ _ rfl hown _ rfl rfl (by omega) (by omega) B.size ?_))
      intro A3 c3 w4 hown2 hb4
      go_wp2_with fail
      go_roundg k
      case measure => rw [HG.out]; omega
      case rel => exact ⟨k, j + 1, A3, c3, rfl, by omega, rfl, rfl, by rw [HT.out, us_append]; exact hown2, B.trans hb4⟩
theorem goes_r (a h x : Nat) (ha : a < 2305843009213693951) (hh : h < 2305843009213693951) (hx : x < 2305843009213693951) (w : World) :
    Calls Try.prog 11 #[.int .u64 a, .int .u64 h, .int .u64 x] w fun e w' => e = .returned (.int .u64 (goesN a h x : Nat)) ∧ w = w' := by
  have h1 := mulP_r a h (by omega) (by omega) w
  rw [Nat.mul_comm] at h1
  have hMlt : h * a % 2305843009213693951 < 2305843009213693951 := Nat.mod_lt _ (by omega)
  have h2 := addP_r (h * a % 2305843009213693951) x (by omega) (by omega) w
  obtain ⟨R, hR⟩ : ∃ R, R = goesN a h x := ⟨_, rfl⟩
  rw [← hR]
  rw [show (h * a % 2305843009213693951 + x) % 2305843009213693951 = R by rw [hR]; rfl] at h2
  generalize h * a % 2305843009213693951 = M at *
  clear hR hMlt ha hh hx
  go_enter Try.func11, Try.ntmps11
  go_wp2_with (first | (go_at_call 29; (with_reducible refine h1.mono ?_); rintro e w2 ⟨rfl, rfl⟩) | (go_at_call 28; (with_reducible refine h2.mono ?_); rintro e w2 ⟨rfl, rfl⟩))
  go_ret
  exact ⟨rfl, rfl⟩
theorem evalr_long (a : Nat) (A : Option Addr) (m c : Nat) (w : World) (hm : 4096 < m) :
    Calls Try.prog 9 #[.int .u64 a, .slice A m c] w fun e w' => e = .returned (.tuple #[.int .u64 0, .int .i64 4]) ∧ Below w.heap.size w w' := by
  have t1 : (4096 : Int) < (m : Int) := by omega
  clear hm
  go_enter Try.func9, Try.ntmps9
  go_wp2_with fail
  go_ret2
  exact ⟨rfl, Below.refl _ _⟩
theorem evalr_bad (a : Nat) (A : Option Addr) (m c : Nat) (w : World) (hm : m ≤ 4096) (ha : ¬ a < 2305843009213693951) :
    Calls Try.prog 9 #[.int .u64 a, .slice A m c] w fun e w' => e = .returned (.tuple #[.int .u64 0, .int .i64 2]) ∧ Below w.heap.size w w' := by
  have t1 : ¬ (4096 : Int) < (m : Int) := by omega
  have t2 : (2305843009213693951 : Int) ≤ (a : Int) := by omega
  clear hm ha
  go_enter Try.func9, Try.ntmps9
  go_wp2_with fail
  go_ret2
  exact ⟨rfl, Below.refl _ _⟩
set_option maxHeartbeats 1000000 in
theorem evalr_good (a : Nat) (ha : a < 2305843009213693951) (bs : List Nat) (hby : ∀ x ∈ bs, x < 256) (A : Option Addr) (m c : Nat) (hm : bs.length = m) (hm2 : m ≤ 4096) (w : World) (hr : Rs w A (by8 bs)) :
    Calls Try.prog 9 #[.int .u64 a, .slice A m c] w fun e w' => e = .returned (.tuple #[.int .u64 (horN a (chunksN bs) : Nat), .int .i64 0]) ∧ Below w.heap.size w w' := by
  have hM := monic_r bs hby A c m w hm hm2 hr
  have hlen := len_monicN bs
  have hll := len_chunksN bs
  have hlt := monicN_lt bs hby
  rw [hor_pval]
  have hV := hide (fun (A2 : Option Addr) (c2 : Nat) (W : World) (h : Rs W A2 (us (monicN bs))) => value_r A2 c2 W.heap.size _ a (monicN bs) W h rfl (by omega) (fun y hy => Nat.lt_of_lt_of_le (hlt y hy) (by omega)) (by omega))
  rw [show (chunksN bs).reverse ++ [1] = monicN bs from rfl]
  obtain ⟨n, hn⟩ : ∃ n, (monicN bs).length = n := ⟨_, rfl⟩
  unfold RetL at hM
  rw [hn] at hV hM
  generalize pval (monicN bs) a % 2305843009213693951 = R at *
  have t1 : ¬ (4096 : Int) < (m : Int) := by omega
  have t2 : ¬ (2305843009213693951 : Int) ≤ (a : Int) := by omega
  clear hn hlen hll hlt hm hm2 ha
  go_enter Try.func9, Try.ntmps9
  go_wp2_with (go_at_call 25; (with_reducible refine hM.mono ?_); rintro e w2 ⟨A2, c2, rfl, hq, hb2⟩)
  go_wp2_with (go_at_call 22; (with_reducible refine (hV.out _ _ _ hq).mono ?_); rintro e w3 ⟨rfl, rfl⟩)
  go_ret2
  exact ⟨rfl, hb2⟩
end Go.Proofs.Ytaeebipcgeembaa
