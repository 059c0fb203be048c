/-
  Walks of the laws of chapter 18: PolyReckons, PolyDivides, PolyRoots. Conditions: slices no longer than the form lets them be.
-/
import Derived.Test.YtbgppkgcdmpajaaPolyI
namespace Go.Proofs.Ytbgppkgcdmpajaa
open Go.RowKit Go.Shelf
set_option linter.unusedVariables false

theorem Rs.new1 (w : World) (x : Nat) (t : TypeId) : Rs (w.alloc (.cells #[.int .u64 x] t)) (some ⟨w.heap.size, 0, none⟩) (us [x]) := by
  intro _
  refine ⟨_, _, rfl, by simp, fun j u hu => ?_⟩
  match j, hu with
  | 0, hu =>
    injection hu with hu
    subst hu
    simp [go_sem]
theorem words_same (A A' : Option Addr) (c c' n n' : Nat) (xs : List Nat) (W : World) (hx : Rs W A (us xs)) (hy : Rs W A' (us xs)) (hl : xs.length ≤ 1000000) (hn : xs.length = n) (hn' : xs.length = n') :
    Calls Try.prog 40 #[.slice A n c, .slice A' n' c'] W fun e w' => e = .returned (.bool true) ∧ Below W.heap.size W w' := by
  have h := words_any A A' c c' _ _ xs xs W hx hy (by omega) (by omega) n hn n' hn'
  simpa using h
theorem len_addP (a b : List Nat) : (addP a b).length ≤ max a.length b.length := by rw [addP, trimZ_len, ← len_addL]; exact nzc_le _ _
theorem len_mulP (a b : List Nat) : (mulP a b).length ≤ a.length + b.length := by rw [mulP, trimZ_len, ← len_mulM a b a.length]; exact nzc_le _ _
theorem lt_addP (a b : List Nat) : ∀ y ∈ addP a b, y < 18446744073709551616 := fun y hy => Nat.lt_trans (trimZ_lt (lt_addL a b) y hy) (by omega)
theorem lt_mulP (a b : List Nat) : ∀ y ∈ mulP a b, y < 18446744073709551616 := fun y hy => Nat.lt_trans (trimZ_lt (lt_mulM a b _) y hy) (by omega)
theorem len_trimP (a : List Nat) : (trimZ (a.map (· % 2305843009213693951))).length ≤ a.length := by rw [trimZ_len]; exact Nat.le_trans (nzc_le _ _) (by simp)
theorem lt_modP (x : Nat) : x % 2305843009213693951 < 18446744073709551616 := Nat.lt_trans (Nat.mod_lt _ (by omega)) (by omega)

set_option maxRecDepth 100000 in
set_option maxHeartbeats 4000000 in
theorem reckons18_g (A A' : Option Addr) (c c' n m x : Nat) (a b : List Nat) (w : World) (ra : Rs w A (us a)) (rb : Rs w A' (us b)) (hla : a.length = n) (hlb : b.length = m) (hwa : ∀ y ∈ a, y < 18446744073709551616) (hwb : ∀ y ∈ b, y < 18446744073709551616) (hx : x < 18446744073709551616) (hn : n ≤ 10) (hm : m ≤ 10) :
    Calls Try.prog 9 #[.slice A n c, .slice A' m c', .int .u64 x] w fun e w' => e = .returned (.bool true) ∧ Below w.heap.size w w' := by
  have HA := hide (fun W h h' => add_p A A' c c' n m a b W h h' hla hlb (by omega) (by omega) hwa hwb)
  have HA2 := hide (fun W h h' => addq_r A A' c c' n m a b W h h' hla hlb (by omega) (by omega) hwa hwb)
  have HM := hide (fun W h h' => mul_p A A' c c' n m a b W h h' hla hlb (by omega) (by omega) hwa hwb)
  have HM2 := hide (fun W h h' => mulq_r A A' c c' n m a b W h h' hla hlb (by omega) (by omega) hwa hwb)
  have HT := hide (fun W h => trim_p A c n a W h hla (by omega) hwa)
  have HT2 := hide (fun W h => trim_r A c n a W h hla (by omega) hwa)
  have HVa := hide (fun W (h : Rs W A (us a)) => value_r A c _ n x a W h hla (by omega) hwa hx)
  have HVb := hide (fun W (h : Rs W A' (us b)) => value_r A' c' _ m x b W h hlb (by omega) hwb hx)
  have hls := len_addP a b
  have hlm := len_mulP a b
  have hlt := len_trimP a
  have HWS := hide (fun A A' c c' W h h' => words_same A A' c c' _ _ (addP a b) W h h' (by omega) rfl rfl)
  have HWM := hide (fun A A' c c' W h h' => words_same A A' c c' _ _ (mulP a b) W h h' (by omega) rfl rfl)
  have HWT := hide (fun A A' c c' W h h' => words_same A A' c c' _ _ (trimZ (a.map (· % 2305843009213693951))) W h h' (by omega) rfl rfl)
  have HVs := hide (fun A c W (h : Rs W A (us (addP a b))) => value_r A c _ _ x (addP a b) W h rfl (by omega) (lt_addP a b) hx)
  have HVm := hide (fun A c W (h : Rs W A (us (mulP a b))) => value_r A c _ _ x (mulP a b) W h rfl (by omega) (lt_mulP a b) hx)
  have hxa := lt_modP (pval a x)
  have hxb := lt_modP (pval b x)
  have r1 := reckon_add a b x
  have r2 := reckon_mul a b x
  generalize pval a x % 2305843009213693951 = u at *
  generalize pval b x % 2305843009213693951 = v at *
  have one : ∀ z, z < 18446744073709551616 → ∀ y ∈ ([z] : List Nat), y < 18446744073709551616 := fun z hz y hy => by rw [List.mem_singleton.1 hy]; exact hz
  have hlu := len_addP [u] [v]
  have hlv := len_mulP [u] [v]
  simp only [List.length_cons, List.length_nil] at hlu hlv
  have HUA := hide (fun A A' c c' W h h' => addq_r A A' c c' 1 1 [u] [v] W h h' rfl rfl (by omega) (by omega) (one u hxa) (one v hxb))
  have HUM := hide (fun A A' c c' W h h' => mulq_r A A' c c' 1 1 [u] [v] W h h' rfl rfl (by omega) (by omega) (one u hxa) (one v hxb))
  have HVU := hide (fun A c W (h : Rs W A (us (addP [u] [v]))) => value_r A c _ _ 0 (addP [u] [v]) W h rfl (by omega) (lt_addP _ _) (by omega))
  have HVV := hide (fun A c W (h : Rs W A (us (mulP [u] [v]))) => value_r A c _ _ 0 (mulP [u] [v]) W h rfl (by omega) (lt_mulP _ _) (by omega))
  rw [← r1] at HVU
  rw [← r2] at HVV
  clear r1 r2 one hlu hlv hls hlm hlt hwa hwb hx hxa hxb hla hlb
  generalize addP [u] [v] = UV at *
  generalize mulP [u] [v] = UM at *
  generalize pval (addP a b) x % 2305843009213693951 = t1 at *
  generalize pval (mulP a b) x % 2305843009213693951 = t2 at *
  generalize addP a b = S at *
  generalize mulP a b = M at *
  generalize trimZ (a.map (· % 2305843009213693951)) = T at *
  have v1 : (n : Int) ≤ 10 := by omega
  have v2 : (m : Int) ≤ 10 := by omega
  go_enter Try.func9, Try.ntmps9
  go_wp2_with fail
  refine (awake18 _).mono ?_
  rintro e w1 ⟨rfl, hb⟩
  replace ra := ra.call hb
  replace rb := rb.call hb
  have B : Below w.heap.size w w1 := hb
  clear hb
  go_wp2_with fail
  with_reducible refine (HA.out _ ra rb).mono ?_
  rintro e w2 ⟨A1, c1, rfl, r1, hb⟩
  replace ra := ra.call hb
  replace rb := rb.call hb
  replace B : Below w.heap.size w w2 := below_call B (Nat.le_refl _) hb
  clear hb
  go_wp2_with fail
  with_reducible refine (HM.out _ ra rb).mono ?_
  rintro e w3 ⟨A2, c2, rfl, r2, hb⟩
  replace ra := ra.call hb
  replace rb := rb.call hb
  replace r1 := r1.call hb
  replace B : Below w.heap.size w w3 := below_call B (Nat.le_refl _) hb
  clear hb
  go_wp2_with fail
  with_reducible refine (HA2.out _ ra rb).mono ?_
  rintro e w4 ⟨A3, c3, rfl, r3, hb⟩
  replace ra := ra.call hb
  replace rb := rb.call hb
  replace r1 := r1.call hb
  replace r2 := r2.call hb
  replace B : Below w.heap.size w w4 := below_call B (Nat.le_refl _) hb
  clear hb
  go_wp2_with fail
  with_reducible refine (HWS.out _ _ _ _ _ r1 r3).mono ?_
  rintro e w5 ⟨rfl, hb⟩
  replace ra := ra.call hb
  replace rb := rb.call hb
  replace r1 := r1.call hb
  replace r2 := r2.call hb
  replace B : Below w.heap.size w w5 := below_call B (Nat.le_refl _) hb
  clear hb
  go_wp2_with fail
  with_reducible refine (HM2.out _ ra rb).mono ?_
  rintro e w6 ⟨A4, c4, rfl, r4, hb⟩
  replace ra := ra.call hb
  replace rb := rb.call hb
  replace r1 := r1.call hb
  replace r2 := r2.call hb
  replace B : Below w.heap.size w w6 := below_call B (Nat.le_refl _) hb
  clear hb
  go_wp2_with fail
  with_reducible refine (HWM.out _ _ _ _ _ r2 r4).mono ?_
  rintro e w7 ⟨rfl, hb⟩
  replace ra := ra.call hb
  replace rb := rb.call hb
  replace r1 := r1.call hb
  replace r2 := r2.call hb
  replace B : Below w.heap.size w w7 := below_call B (Nat.le_refl _) hb
  clear hb
  go_wp2_with fail
  with_reducible refine (HT.out _ ra).mono ?_
  rintro e w8 ⟨A5, c5, rfl, r5, hb⟩
  replace ra := ra.call hb
  replace rb := rb.call hb
  replace r1 := r1.call hb
  replace r2 := r2.call hb
  replace B : Below w.heap.size w w8 := below_call B (Nat.le_refl _) hb
  clear hb
  go_wp2_with fail
  with_reducible refine (HT2.out _ ra).mono ?_
  rintro e w9 ⟨A6, c6, rfl, r6, hb⟩
  replace ra := ra.call hb
  replace rb := rb.call hb
  replace r1 := r1.call hb
  replace r2 := r2.call hb
  replace r5 := r5.call hb
  replace B : Below w.heap.size w w9 := below_call B (Nat.le_refl _) hb
  clear hb
  go_wp2_with fail
  with_reducible refine (HWT.out _ _ _ _ _ r5 r6).mono ?_
  rintro e w10 ⟨rfl, hb⟩
  replace ra := ra.call hb
  replace rb := rb.call hb
  replace r1 := r1.call hb
  replace r2 := r2.call hb
  replace r5 := r5.call hb
  replace B : Below w.heap.size w w10 := below_call B (Nat.le_refl _) hb
  clear hb
  go_wp2_with fail
  with_reducible refine (HVa.out _ ra).mono ?_
  rintro e w11 ⟨rfl, rfl⟩
  go_wp2_with fail
  have RU := fun t => Rs.new1 w10 u t
  with_reducible refine (HVb.out _ (rb.alloc _)).mono ?_
  rintro e w12 ⟨rfl, rfl⟩
  go_wp2_with fail
  with_reducible refine (HVs.out _ _ _ ((r1.alloc _).alloc _)).mono ?_
  rintro e w12 ⟨rfl, rfl⟩
  go_wp2_with fail
  have RV := fun t t' => Rs.new1 (w10.alloc (.cells #[.int .u64 u] t)) v t'
  have hz : ∀ t, (w10.alloc (.cells #[.int .u64 u] t)).heap.size = w10.heap.size + 1 := fun t => by simp
  simp only [hz] at RV
  clear hz
  replace r2 := fun t t' => ((r2.alloc (.cells #[.int .u64 u] t)).alloc (.cells #[.int .u64 v] t'))
  replace RU := fun t t' => (RU t).alloc (.cells #[.int .u64 v] t')
  replace B := fun t t' => (B.alloc B.size (.cells #[.int .u64 u] t)).alloc (by simp; have := B.size; omega) (.cells #[.int .u64 v] t')
  with_reducible refine (HUA.out _ _ _ _ _ (RU _ _) (RV _ _)).mono ?_
  rintro e w13 ⟨A7, c7, rfl, r7, hb⟩
  replace RU := (RU _ _).call hb
  replace RV := (RV _ _).call hb
  replace r2 := (r2 _ _).call hb
  replace B : Below w.heap.size w w13 := below_call (B _ _) (Nat.le_refl _) hb
  clear hb
  go_wp2_with fail
  refine (HVU.out _ _ _ r7).mono ?_
  rintro e w14 ⟨rfl, rfl⟩
  go_wp2_with fail
  with_reducible refine (HVm.out _ _ _ r2).mono ?_
  rintro e w15 ⟨rfl, rfl⟩
  go_wp2_with fail
  with_reducible refine (HUM.out _ _ _ _ _ RU RV).mono ?_
  rintro e w16 ⟨A8, c8, rfl, r8, hb⟩
  replace B : Below w.heap.size w w16 := below_call B (Nat.le_refl _) hb
  clear hb
  go_wp2_with fail
  refine (HVV.out _ _ _ r8).mono ?_
  rintro e w17 ⟨rfl, rfl⟩
  go_wp2_with fail
  go_ret
  exact ⟨rfl, B⟩
set_option maxHeartbeats 1000000 in
theorem reckons18_law (A A' : Option Addr) (c c' n m x : Nat) (a b : List Nat) (w : World) (ra : Rs w A (us a)) (rb : Rs w A' (us b)) (hla : a.length = n) (hlb : b.length = m) (hwa : ∀ y ∈ a, y < 18446744073709551616) (hwb : ∀ y ∈ b, y < 18446744073709551616) (hx : x < 18446744073709551616) (hn : n ≤ 17592186043904) (hm : m ≤ 17592186043904) :
    Calls Try.prog 9 #[.slice A n c, .slice A' m c', .int .u64 x] w fun e w' => e = .returned (.bool true) ∧ Below w.heap.size w w' := by
  by_cases h1 : n ≤ 10
  · by_cases h2 : m ≤ 10
    · exact reckons18_g A A' c c' n m x a b w ra rb hla hlb hwa hwb hx h1 h2
    · have v1 : (n : Int) ≤ 10 := by omega
      have v2 : ¬ (m : Int) ≤ 10 := by omega
      clear h1 h2 hla hlb hwa hwb hx ra rb
      go_enter Try.func9, Try.ntmps9
      go_wp2_with fail
      refine (awake18 _).mono ?_
      rintro e w1 ⟨rfl, hb⟩
      go_wp2_with fail
      go_ret
      exact ⟨rfl, hb⟩
  · have v1 : ¬ (n : Int) ≤ 10 := by omega
    clear h1 hla hlb hwa hwb hx ra rb
    go_enter Try.func9, Try.ntmps9
    go_wp2_with fail
    refine (awake18 _).mono ?_
    rintro e w1 ⟨rfl, hb⟩
    go_wp2_with fail
    go_ret
    exact ⟨rfl, hb⟩
set_option maxRecDepth 100000 in
set_option maxHeartbeats 4000000 in
theorem divides18_g (A : Option Addr) (c n x : Nat) (a : List Nat) (w : World) (ra : Rs w A (us a)) (hla : a.length = n) (hwa : ∀ y ∈ a, y < 18446744073709551616) (hx : x < 18446744073709551616) (hn : n ≤ 20) :
    Calls Try.prog 8 #[.slice A n c, .int .u64 x] w fun e w' => e = .returned (.bool true) ∧ Below w.heap.size w w' := by
  have HD := hide (fun W h => divide_p A c n x a W h hla (by omega) hwa hx)
  have HV := hide (fun W (h : Rs W A (us a)) => value_r A c _ n x a W h hla (by omega) hwa hx)
  have HT := hide (fun W h => trim_r A c n a W h hla (by omega) hwa)
  have HMI := hide (fun W => minus_r x hx W)
  have hq1 : (trimZ (quoP 2305843009213693951 a x)).length ≤ n := by rw [trimZ_len]; exact Nat.le_trans (nzc_le _ _) (by simp [quoP, hla])
  have hq2 : ∀ y ∈ trimZ (quoP 2305843009213693951 a x), y < 18446744073709551616 := trimZ_lt fun y hy => by obtain ⟨i, _, rfl⟩ := List.mem_map.1 hy; exact lt_modP _
  have hself := trimP_self a x
  have hback := divide_back a x
  have hv := lt_modP (pval a x)
  have hm : negP x < 18446744073709551616 := lt_modP _
  have hlt := len_trimP a
  have HWT := hide (fun A A' c c' W h h' => words_same A A' c c' _ _ (trimZ (a.map (· % 2305843009213693951))) W h h' (by omega) rfl rfl)
  generalize pval a x % 2305843009213693951 = v at *
  generalize negP x = m at *
  generalize trimZ (quoP 2305843009213693951 a x) = Q at *
  generalize trimZ (a.map (· % 2305843009213693951)) = T at *
  have two : ∀ y ∈ ([m, 1] : List Nat), y < 18446744073709551616 := fun y hy => by rcases List.mem_cons.1 hy with h | h; omega; rw [List.mem_singleton.1 h]; omega
  have one : ∀ y ∈ ([v] : List Nat), y < 18446744073709551616 := fun y hy => by rw [List.mem_singleton.1 hy]; exact hv
  have hlm := len_mulP Q [m, 1]
  simp only [List.length_cons, List.length_nil] at hlm
  have HM := hide (fun A A' c c' W h h' => mulq_r A A' c c' _ 2 Q [m, 1] W h h' rfl rfl (by omega) (by omega) hq2 two)
  have HA := hide (fun A A' c c' W h h' => addq_r A A' c c' _ 1 (mulP Q [m, 1]) [v] W h h' rfl rfl (by omega) (by omega) (lt_mulP _ _) one)
  rw [hback] at HA
  have HTQ := hide (fun A c W h => trim_r A c _ Q W h rfl (by omega) hq2)
  rw [hself] at HTQ
  have HWQ := hide (fun A A' c c' W h h' => words_same A A' c c' _ _ Q W h h' (by omega) rfl rfl)
  generalize mulP Q [m, 1] = M at *
  clear hself hback hlt hlm hq1 hq2 hv hm two one hwa hx hla
  have v1 : (n : Int) ≤ 20 := by omega
  go_enter Try.func8, Try.ntmps8
  go_wp2_with fail
  refine (awake18 _).mono ?_
  rintro e w1 ⟨rfl, hb⟩
  replace ra := ra.call hb
  have B : Below w.heap.size w w1 := hb
  clear hb
  go_wp2_with fail
  with_reducible refine (HD.out _ ra).mono ?_
  rintro e w2 ⟨A1, c1, rfl, r1, hb⟩
  replace ra := ra.call hb
  replace B : Below w.heap.size w w2 := below_call B (Nat.le_refl _) hb
  clear hb
  go_wp2_with fail
  with_reducible refine (HMI.out _).mono ?_
  rintro e w3 ⟨rfl, rfl⟩
  go_wp2_with fail
  have RM := fun t => Rs.new2 w2 m 1 t
  refine (HM.out _ _ _ _ _ (r1.alloc _) (RM _)).mono ?_
  rintro e w3 ⟨A2, c2, rfl, r2, hb⟩
  replace ra := (ra.alloc _).call hb
  replace r1 := (r1.alloc _).call hb
  replace B : Below w.heap.size w w3 := below_call (B.alloc B.size _) (Nat.le_refl _) hb
  clear hb RM
  go_wp2_with fail
  have RM := fun t => Rs.new1 w3 v t
  with_reducible refine (HA.out _ _ _ _ _ (r2.alloc _) (RM _)).mono ?_
  rintro e w4 ⟨A3, c3, rfl, r3, hb⟩
  replace ra := (ra.alloc _).call hb
  replace r1 := (r1.alloc _).call hb
  replace B : Below w.heap.size w w4 := below_call (B.alloc B.size _) (Nat.le_refl _) hb
  clear hb RM r2
  go_wp2_with fail
  with_reducible refine (HV.out _ ra).mono ?_
  rintro e w5 ⟨rfl, rfl⟩
  go_wp2_with fail
  with_reducible refine (HT.out _ ra).mono ?_
  rintro e w6 ⟨A4, c4, rfl, r4, hb⟩
  replace ra := ra.call hb
  replace r1 := r1.call hb
  replace r3 := r3.call hb
  replace B : Below w.heap.size w w6 := below_call B (Nat.le_refl _) hb
  clear hb
  go_wp2_with fail
  with_reducible refine (HWT.out _ _ _ _ _ r3 r4).mono ?_
  rintro e w7 ⟨rfl, hb⟩
  replace ra := ra.call hb
  replace r1 := r1.call hb
  replace r3 := r3.call hb
  replace B : Below w.heap.size w w7 := below_call B (Nat.le_refl _) hb
  clear hb
  go_wp2_with fail
  with_reducible refine (HTQ.out _ _ _ r1).mono ?_
  rintro e w8 ⟨A5, c5, rfl, r5, hb⟩
  replace ra := ra.call hb
  replace r1 := r1.call hb
  replace r3 := r3.call hb
  replace B : Below w.heap.size w w8 := below_call B (Nat.le_refl _) hb
  clear hb
  go_wp2_with fail
  with_reducible refine (HWQ.out _ _ _ _ _ r1 r5).mono ?_
  rintro e w9 ⟨rfl, hb⟩
  replace ra := ra.call hb
  replace r1 := r1.call hb
  replace r3 := r3.call hb
  replace B : Below w.heap.size w w9 := below_call B (Nat.le_refl _) hb
  clear hb
  go_wp2_with fail
  go_ret
  exact ⟨rfl, B⟩
set_option maxHeartbeats 1000000 in
theorem divides18_law (A : Option Addr) (c n x : Nat) (a : List Nat) (w : World) (ra : Rs w A (us a)) (hla : a.length = n) (hwa : ∀ y ∈ a, y < 18446744073709551616) (hx : x < 18446744073709551616) (hn : n ≤ 17592186043904) :
    Calls Try.prog 8 #[.slice A n c, .int .u64 x] w fun e w' => e = .returned (.bool true) ∧ Below w.heap.size w w' := by
  by_cases h1 : n ≤ 20
  · exact divides18_g A c n x a w ra hla hwa hx h1
  · have v1 : ¬ (n : Int) ≤ 20 := by omega
    clear h1 hla hwa hx ra
    go_enter Try.func8, Try.ntmps8
    go_wp2_with fail
    refine (awake18 _).mono ?_
    rintro e w1 ⟨rfl, hb⟩
    go_wp2_with fail
    go_ret
    exact ⟨rfl, hb⟩
set_option maxRecDepth 100000 in
set_option maxHeartbeats 4000000 in
theorem roots18_g (A A' : Option Addr) (c c' n m : Nat) (a b : List Nat) (w : World) (ra : Rs w A (us a)) (rb : Rs w A' (us b)) (hla : a.length = n) (hlb : b.length = m) (hwa : ∀ y ∈ a, y < 18446744073709551616) (hwb : ∀ y ∈ b, y < 18446744073709551616) (hn : n ≤ 10) (hm : m ≤ 20) :
    Calls Try.prog 10 #[.slice A n c, .slice A' m c'] w fun e w' => e = .returned (.bool true) ∧ Below w.heap.size w w' := by
  have HR := hide (fun W h h' => roots_p A A' c c' n m a b W h h' hla hlb (by omega) (by omega) hwa hwb)
  have HR2 := hide (fun W h h' => roots_r A A' c c' n m a b W h h' hla hlb (by omega) (by omega) hwa hwb)
  have HT := hide (fun W h => trim_r A c n a W h hla (by omega) hwa)
  have hfew := rootsS_few a b m
  have hlr := len_rootsS a b m
  have HWR := hide (fun A A' c c' W h h' => words_same A A' c c' _ _ (rootsS a b m) W h h' (by omega) rfl rfl)
  have hlt := len_trimP a
  generalize rootsS a b m = R at *
  generalize trimZ (a.map (· % 2305843009213693951)) = T at *
  have v1 : (n : Int) ≤ 10 := by omega
  have v2 : (m : Int) ≤ 20 := by omega
  obtain ⟨r, hrl⟩ : ∃ r, R.length = r := ⟨_, rfl⟩
  obtain ⟨t, htl⟩ : ∃ t, T.length = t := ⟨_, rfl⟩
  rw [hrl, htl] at hfew
  rw [hrl] at hlr
  rw [htl] at hlt
  have HRL := hide hrl
  have HTL := hide htl
  have HF := hide hfew
  have hr20 : r ≤ 20 := by omega
  have ht20 : t ≤ 10 := by omega
  have hcs : (t = 0) ∨ (0 < t ∧ r + 1 ≤ t) := by rcases Nat.eq_zero_or_pos t with h | h; exact .inl h; exact .inr ⟨h, hfew h⟩
  clear hfew hlr hlt hwa hwb hla hlb hrl htl
  go_enter Try.func10, Try.ntmps10
  go_wp2_with fail
  refine (awake18 _).mono ?_
  rintro e w1 ⟨rfl, hb⟩
  replace ra := ra.call hb
  replace rb := rb.call hb
  have B : Below w.heap.size w w1 := hb
  clear hb
  go_wp2_with fail
  with_reducible refine (HR.out _ ra rb).mono ?_
  rintro e w2 ⟨A1, c1, rfl, r1, hb⟩
  replace ra := ra.call hb
  replace rb := rb.call hb
  replace B : Below w.heap.size w w2 := below_call B (Nat.le_refl _) hb
  clear hb
  go_wp2_with fail
  with_reducible refine (HT.out _ ra).mono ?_
  rintro e w3 ⟨A2, c2, rfl, r2, hb⟩
  replace ra := ra.call hb
  replace rb := rb.call hb
  replace r1 := r1.call hb
  replace B : Below w.heap.size w w3 := below_call B (Nat.le_refl _) hb
  clear hb
  go_wp2_with fail
  with_reducible refine (HR2.out _ ra rb).mono ?_
  rintro e w4 ⟨A3, c3, rfl, r3, hb⟩
  replace ra := ra.call hb
  replace rb := rb.call hb
  replace r1 := r1.call hb
  replace B : Below w.heap.size w w4 := below_call B (Nat.le_refl _) hb
  clear hb
  go_wp2_with fail
  with_reducible refine (HWR.out _ _ _ _ _ r1 r3).mono ?_
  rintro e w5 ⟨rfl, hb⟩
  replace B : Below w.heap.size w w5 := below_call B (Nat.le_refl _) hb
  clear hb
  rcases hcs with h | ⟨h, h'⟩
  · have e1 : ((T.length : Nat) : Int) == 0 := by rw [HTL.out, h]; rfl
    clear h
    go_wp2_with fail
    go_ret
    exact ⟨rfl, B⟩
  · have e1 : (((T.length : Nat) : Int) == 0) = false := by rw [HTL.out, beq_eq_false_iff_ne]; omega
    have e2 : ((R.length : Nat) : Int) ≤ ((T.length : Nat) : Int) - 1 := by rw [HRL.out, HTL.out]; omega
    have e3 : (1 : Int) ≤ ((T.length : Nat) : Int) := by rw [HTL.out]; omega
    have e4 : ((T.length : Nat) : Int) ≤ 10 := by rw [HTL.out]; omega
    clear h h'
    go_wp2_with fail
    go_ret
    exact ⟨rfl, B⟩
set_option maxHeartbeats 1000000 in
theorem roots18_law (A A' : Option Addr) (c c' n m : Nat) (a b : List Nat) (w : World) (ra : Rs w A (us a)) (rb : Rs w A' (us b)) (hla : a.length = n) (hlb : b.length = m) (hwa : ∀ y ∈ a, y < 18446744073709551616) (hwb : ∀ y ∈ b, y < 18446744073709551616) (hn : n ≤ 17592186043904) (hm : m ≤ 17592186043904) :
    Calls Try.prog 10 #[.slice A n c, .slice A' m c'] w fun e w' => e = .returned (.bool true) ∧ Below w.heap.size w w' := by
  by_cases h1 : n ≤ 10
  · by_cases h2 : m ≤ 20
    · exact roots18_g A A' c c' n m a b w ra rb hla hlb hwa hwb h1 h2
    · have v1 : (n : Int) ≤ 10 := by omega
      have v2 : ¬ (m : Int) ≤ 20 := by omega
      clear h1 h2 hla hlb hwa hwb ra rb
      go_enter Try.func10, Try.ntmps10
      go_wp2_with fail
      refine (awake18 _).mono ?_
      rintro e w1 ⟨rfl, hb⟩
      go_wp2_with fail
      go_ret
      exact ⟨rfl, hb⟩
  · have v1 : ¬ (n : Int) ≤ 10 := by omega
    clear h1 hla hlb hwa hwb ra rb
    go_enter Try.func10, Try.ntmps10
    go_wp2_with fail
    refine (awake18 _).mono ?_
    rintro e w1 ⟨rfl, hb⟩
    go_wp2_with fail
    go_ret
    exact ⟨rfl, hb⟩
end Go.Proofs.Ytbgppkgcdmpajaa
