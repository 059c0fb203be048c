/-
  The law StrpolyFew. Conditions: words; bytes.
-/
import Derived.Test.YtaeebipcgeembaaStrU
namespace Go.Proofs.Ytaeebipcgeembaa
open Go.RowKit
set_option linter.unusedVariables false

/-- Of the first k seeds those that g picks, each once. -/
def metS (g : Nat → Bool) (l : List Nat) : Nat → List Nat
  | 0 => []
  | k + 1 => if g (l.getD k 0) = true ∧ l.getD k 0 ∉ l.take k then metS g l k ++ [l.getD k 0] else metS g l k
theorem take_getD {l : List Nat} {k : Nat} (h : k < l.length) : l.take (k + 1) = l.take k ++ [l.getD k 0] := by
  rw [List.take_succ_eq_append_getElem h]
  simp [List.getD, h]
theorem metS_sub (g : Nat → Bool) (l : List Nat) : ∀ k, k ≤ l.length → (∀ y ∈ metS g l k, y ∈ l.take k ∧ g y = true) ∧ (metS g l k).Nodup := by
  intro k
  induction k with
  | zero => intro _; exact ⟨fun y hy => by simp [metS] at hy, by simp [metS]⟩
  | succ k ih =>
    intro hk
    obtain ⟨h1, h2⟩ := ih (by omega)
    rw [take_getD (by omega), metS]
    split
    · rename_i hc
      refine ⟨fun y hy => ?_, ?_⟩
      · rcases List.mem_append.1 hy with h | h
        · exact ⟨List.mem_append.2 (.inl (h1 y h).1), (h1 y h).2⟩
        · obtain rfl : y = l.getD k 0 := by simpa using h
          exact ⟨List.mem_append.2 (.inr (by simp)), hc.1⟩
      · refine List.nodup_append.2 ⟨h2, by simp, fun a ha b hb => ?_⟩
        obtain rfl : b = l.getD k 0 := by simpa using hb
        intro he
        subst he
        exact hc.2 (h1 _ ha).1
    · exact ⟨fun y hy => ⟨List.mem_append.2 (.inl (h1 y hy).1), (h1 y hy).2⟩, h2⟩
theorem metS_len (g : Nat → Bool) (l : List Nat) (k : Nat) : (metS g l k).length ≤ k := by
  induction k with
  | zero => simp [metS]
  | succ k ih =>
    rw [metS]
    split
    · rw [List.length_append, List.length_singleton]
      omega
    · omega
theorem mem_take_succ {l : List Nat} {j x : Nat} (h : j < l.length) : decide (x ∈ l.take (j + 1)) = (decide (x ∈ l.take j) || decide (l[j] = x)) := by
  rw [List.take_succ_eq_append_getElem h, Bool.eq_iff_iff]
  simp only [List.mem_append, List.mem_singleton, decide_eq_true_eq, Bool.or_eq_true]
  exact or_congr Iff.rfl eq_comm
theorem beq_cast (y x : Nat) : ((y : Int) == (x : Int)) = (false || decide (y = x)) := by
  rw [Bool.eq_iff_iff]
  simp [Int.natCast_inj]
/-- Does a seed make two unlike texts meet. -/
def goodB (bs cs : List Nat) (a : Nat) : Bool := decide (a < 2305843009213693951) && (!decide (bs = cs) && decide (horN a (chunksN bs) = horN a (chunksN cs)))
theorem metS_few {bs cs : List Nat} (hb : ∀ x ∈ bs, x < 256) (hc : ∀ x ∈ cs, x < 256) (l : List Nat) : (metS (goodB bs cs) l l.length).length ≤ mostN bs cs := by
  obtain ⟨h1, h2⟩ := metS_sub (goodB bs cs) l l.length (Nat.le_refl _)
  by_cases hne : bs = cs
  · have : metS (goodB bs cs) l l.length = [] := by
      rcases hm : metS (goodB bs cs) l l.length with _ | ⟨y, r⟩
      · rfl
      · have h3 := (h1 y (by rw [hm]; simp)).2
        simp [goodB, hne] at h3
    rw [this]
    simp
  · refine meets_few hb hc hne _ h2 fun a ha => ?_
    have := (h1 a ha).2
    simp [goodB, hne] at this
    exact this
theorem meets_any (a : Nat) (A A' : Option Addr) (n m c c' : Nat) (xs ys : List Nat) (hn : xs.length = n) (hm : ys.length = m) (hnc : n ≤ c) (hmc : m ≤ c') (h4 : n ≤ 4096) (h5 : m ≤ 4096) (hx : ∀ x ∈ xs, x < 256) (hy : ∀ y ∈ ys, y < 256) : ∃ (M : Bool) (E : Nat),
    (∀ w, Rs w A (by8 xs) → Rs w A' (by8 ys) → Calls Try.prog 12 #[.int .u64 a, .slice A n c, .slice A' m c'] w fun e w' => e = .returned (.tuple #[.bool M, .int .i64 (E : Nat)]) ∧ Below w.heap.size w w') ∧
    (goodB xs ys a = true ∧ M = true ∧ E = 0 ∨ goodB xs ys a = false ∧ M = false ∧ E = 0 ∨ goodB xs ys a = false ∧ M = false ∧ decide ((E : Int) = 0) = false) := by
  by_cases ha : a < 2305843009213693951
  · by_cases hs : xs = ys
    · refine ⟨false, 15, fun w h h' => ?_, .inr (.inr ⟨by simp [goodB, hs], rfl, by decide⟩)⟩
      have h := meets_good a ha A A' n m c c' xs ys w hn hm hnc hmc h4 h5 hx hy h h'
      rw [if_pos hs, decide_eq_true hs] at h
      exact h
    · by_cases hh : horN a (chunksN xs) = horN a (chunksN ys)
      · refine ⟨true, 0, fun w h h' => ?_, .inl ⟨by simp [goodB, hs, hh, ha], rfl, rfl⟩⟩
        have h := meets_good a ha A A' n m c c' xs ys w hn hm hnc hmc h4 h5 hx hy h h'
        rw [if_neg hs, decide_eq_false hs, decide_eq_true hh] at h
        exact h
      · refine ⟨false, 0, fun w h h' => ?_, .inr (.inl ⟨by simp [goodB, hs, hh, ha], rfl, rfl⟩)⟩
        have h := meets_good a ha A A' n m c c' xs ys w hn hm hnc hmc h4 h5 hx hy h h'
        rw [if_neg hs, decide_eq_false hs, decide_eq_false hh] at h
        exact h
  · exact ⟨false, 2, fun w _ _ => meets_bad a ha A A' n m c c' h4 w, .inr (.inr ⟨by simp [goodB, ha], rfl, by decide⟩)⟩
set_option maxRecDepth 100000 in
set_option maxHeartbeats 4000000 in
theorem few_skip (A0 A1 A2 : Option Addr) (n0 n1 n2 c0 c1 c2 : Nat) (w : World) (h : 100 < n1 ∨ 100 < n2 ∨ 40 < n0) :
    Calls Try.prog 4 #[.slice A0 n0 c0, .slice A1 n1 c1, .slice A2 n2 c2] w fun e w' => e = .returned (.bool true) ∧ Below w.heap.size w w' := by
  have HAW := hide awake25
  by_cases h1 : 100 < n1
  · have t1 : (100 : Int) < (n1 : Int) := by omega
    clear h h1
    go_enter Try.func4, Try.ntmps4
    go_wp2_with (go_at_call 7; (with_reducible refine (HAW.out w).mono ?_); rintro e w2 ⟨rfl, hb2⟩)
    go_ret
    exact ⟨rfl, hb2⟩
  · by_cases h2 : 100 < n2
    · have t1 : ¬ (100 : Int) < (n1 : Int) := by omega
      have t2 : (100 : Int) < (n2 : Int) := by omega
      clear h h1 h2
      go_enter Try.func4, Try.ntmps4
      go_wp2_with (go_at_call 7; (with_reducible refine (HAW.out w).mono ?_); rintro e w2 ⟨rfl, hb2⟩)
      go_ret
      exact ⟨rfl, hb2⟩
    · have t1 : ¬ (100 : Int) < (n1 : Int) := by omega
      have t2 : ¬ (100 : Int) < (n2 : Int) := by omega
      have t3 : (40 : Int) < (n0 : Int) := by omega
      clear h h1 h2
      go_enter Try.func4, Try.ntmps4
      go_wp2_with (go_at_call 7; (with_reducible refine (HAW.out w).mono ?_); rintro e w2 ⟨rfl, hb2⟩)
      go_ret
      exact ⟨rfl, hb2⟩
set_option maxRecDepth 100000 in
set_option maxHeartbeats 4000000 in
theorem few_main (A0 A1 A2 : Option Addr) (n0 n1 n2 c0 c1 c2 : Nat) (l bs cs : List Nat) (hl : l.length = n0) (hb1 : bs.length = n1) (hb2 : cs.length = n2) (hnc1 : n1 ≤ c1) (hnc2 : n2 ≤ c2) (hb : ∀ x ∈ bs, x < 256) (hc : ∀ x ∈ cs, x < 256) (w : World)
    (hr0 : Rs w A0 (us l)) (hr1 : Rs w A1 (by8 bs)) (hr2 : Rs w A2 (by8 cs)) (h1 : n1 ≤ 100) (h2 : n2 ≤ 100) (h0 : n0 ≤ 40) :
    Calls Try.prog 4 #[.slice A0 n0 c0, .slice A1 n1 c1, .slice A2 n2 c2] w fun e w' => e = .returned (.bool true) ∧ Below w.heap.size w w' := by
  have HAW := hide awake25
  have HM := hide (fun a => meets_any a A1 A2 n1 n2 c1 c2 bs cs hb1 hb2 hnc1 hnc2 (by omega) (by omega) hb hc)
  have HMO := hide (fun W => most_f A1 A2 n1 n2 c1 c2 bs cs W hb1 hb2 (by omega) (by omega))
  have HF := hide (by have := metS_few hb hc l; rw [hl] at this; exact this)
  have HL := hide hl
  have HB1 := hide hr1
  have HB2 := hide hr2
  have HS0 := hide (fun k => metS_len (goodB bs cs) l k)
  have HSUC := hide (fun k => show metS (goodB bs cs) l (k + 1) = if goodB bs cs (l.getD k 0) = true ∧ l.getD k 0 ∉ l.take k then metS (goodB bs cs) l k ++ [l.getD k 0] else metS (goodB bs cs) l k from rfl)
  have HZ := hide (show metS (goodB bs cs) l 0 = [] from rfl)
  generalize metS (goodB bs cs) l = S at *
  generalize mostN bs cs = R at *
  have t1 : ¬ (100 : Int) < (n1 : Int) := by omega
  have t2 : ¬ (100 : Int) < (n2 : Int) := by omega
  have t3 : ¬ (40 : Int) < (n0 : Int) := by omega
  have HN0 := hide h0
  clear hb1 hb2 hnc1 hnc2 hb hc hr1 hr2 hl h1 h2 h0
  go_enter Try.func4, Try.ntmps4
  go_wp2_with (go_at_call 7; (with_reducible refine (HAW.out w).mono ?_); rintro e w2 ⟨rfl, hb2⟩)
  clear t1 t2 t3
  go_loopg [7, 31] n0 (fun g v7 v31 wr => ∃ k q : Nat, g = n0 - k ∧ k ≤ n0 ∧ v31 = .int .i64 k ∧ v7 = .int .i64 q ∧ Hid (q = (S k).length) ∧ Below w.heap.size w wr)
  case atStart => exact ⟨0, 0, rfl, Nat.zero_le _, rfl, rfl, hide (by rw [HZ.out]; rfl), hb2⟩
  case round =>
    clear hb2
    obtain ⟨k, q, hg, hk, rfl, rfl, HQ, B⟩ := hrel
    have HG := hide hg
    clear hg
    have R0 : Rs wr A0 (us l) := (hr0.below B).more B.size
    have R1 : Rs wr A1 (by8 bs) := (HB1.out.below B).more B.size
    have R2 : Rs wr A2 (by8 cs) := (HB2.out.below B).more B.size
    by_cases hlt : k < n0
    · have t1 : (k : Int) < (n0 : Int) := by omega
      have t2 : (0 : Int) ≤ (k : Int) := by omega
      have hkl : k < l.length := by rw [HL.out]; exact hlt
      obtain ⟨b, o, rfl, hbb, hcx⟩ := R0.u (k := k) hkl
      have hgd : l.getD k 0 = l[k] := by simp [List.getD, hkl]
      obtain ⟨M, E, hM, hcase⟩ := HM.out l[k]
      have HMk := hide hM
      have HCASE := hide hcase
      clear hM hcase
      have HSK := hide (HSUC.out k)
      rw [hgd] at HSK
      generalize l[k] = x at *
      clear hgd
      go_wp2_with fail
      go_loop [10, 11] (fun v10 v11 => ∃ j : Nat, j ≤ k ∧ v11 = .int .i64 j ∧ v10 = .bool (decide (x ∈ l.take j))) (fun _ v11 => k - (intOf v11).toNat)
      case atStart => exact ⟨0, Nat.zero_le _, rfl, by simp⟩
      case round =>
        obtain ⟨j, hj, rfl, rfl⟩ := hrel
        by_cases hjk : j < k
        · have s1 : (j : Int) < (k : Int) := by omega
          have s2 : (j : Int) < (n0 : Int) := by omega
          have s3 : (0 : Int) ≤ (j : Int) := by omega
          have hjl : j < l.length := by rw [HL.out]; omega
          have hcy : wr.cell? ⟨b, o + j, none⟩ = some (.int .u64 (l[j] : Nat)) := by
            obtain ⟨b', o', he, _, h⟩ := R0.u (k := j) hjl
            injection he with he
            injection he with e1 e2 e3
            rw [e1, e2]
            exact h
          have HT := hide (mem_take_succ (x := x) hjl)
          generalize decide (x ∈ l.take j) = T at *
          generalize l[j] = y at *
          cases T with
          | true =>
            go_wp2_with fail
            go_round
            case rel => exact ⟨j + 1, by omega, by go_num, by rw [HT.out]; rfl⟩
            case measure => simp [intOf]; omega
          | false =>
            go_wp2_with fail
            go_round
            case rel => exact ⟨j + 1, by omega, by go_num, by rw [HT.out, beq_cast]⟩
            case measure => simp [intOf]; omega
        · obtain rfl : j = k := by omega
          have s1 : ¬ (j : Int) < (j : Int) := by omega
          have BZ : ∀ {W : World}, Below wr.heap.size wr W → Below w.heap.size w W := fun hb => B.trans (hb.mono B.size)
          have HQL := hide (HS0.out j)
          rcases HCASE.out with ⟨hgood, rfl, rfl⟩ | ⟨hgood, rfl, rfl⟩ | ⟨hgood, rfl, hE⟩
          · by_cases htw : x ∈ l.take j
            · have HN := hide (show S (j + 1) = S j by rw [HSK.out, if_neg (fun h => h.2 htw)])
              have dt : decide (x ∈ l.take j) = true := decide_eq_true htw
              rw [dt]
              clear hgood htw dt
              go_wp2_with (go_at_call 12; (with_reducible refine (HMk.out wr R1 R2).mono ?_); rintro e w3 ⟨rfl, hb3⟩)
              go_roundg (n0 - (j + 1))
              case measure => rw [HG.out]; omega
              case rel => exact ⟨j + 1, q, rfl, by omega, by go_num, rfl, hide (by rw [HN.out]; exact HQ.out), BZ hb3⟩
            · have HN := hide (show S (j + 1) = S j ++ [x] by rw [HSK.out, if_pos ⟨hgood, htw⟩])
              have dt : decide (x ∈ l.take j) = false := decide_eq_false htw
              rw [dt]
              clear hgood htw dt
              have hq5 : q ≤ 40 := by rw [HQ.out]; exact Nat.le_trans HQL.out (by have := HN0.out; omega)
              have e1 : IntKind.i64.wrap ((q : Int) + 1) = (q : Int) + 1 := wrap_i (by omega) (by omega)
              clear hq5
              go_wp2_with (go_at_call 12; (with_reducible refine (HMk.out wr R1 R2).mono ?_); rintro e w3 ⟨rfl, hb3⟩)
              go_roundg (n0 - (j + 1))
              case measure => rw [HG.out]; omega
              case rel => exact ⟨j + 1, q + 1, rfl, by omega, by go_num, by go_num, hide (by rw [HN.out, List.length_append, ← HQ.out]; rfl), BZ hb3⟩
          · have HN := hide (show S (j + 1) = S j by rw [HSK.out, if_neg (fun h => by rw [hgood] at h; cases h.1)])
            generalize decide (x ∈ l.take j) = T at *
            clear hgood
            go_wp2_with (go_at_call 12; (with_reducible refine (HMk.out wr R1 R2).mono ?_); rintro e w3 ⟨rfl, hb3⟩)
            go_roundg (n0 - (j + 1))
            case measure => rw [HG.out]; omega
            case rel => exact ⟨j + 1, q, rfl, by omega, by go_num, rfl, hide (by rw [HN.out]; exact HQ.out), BZ hb3⟩
          · have HN := hide (show S (j + 1) = S j by rw [HSK.out, if_neg (fun h => by rw [hgood] at h; cases h.1)])
            have hE2 : ¬ E = 0 := by intro h; subst h; simp at hE
            generalize decide (x ∈ l.take j) = T at *
            clear hgood
            go_wp2_with (go_at_call 12; (with_reducible refine (HMk.out wr R1 R2).mono ?_); rintro e w3 ⟨rfl, hb3⟩)
            go_roundg (n0 - (j + 1))
            case measure => rw [HG.out]; omega
            case rel => exact ⟨j + 1, q, rfl, by omega, by go_num, rfl, hide (by rw [HN.out]; exact HQ.out), BZ hb3⟩
    · have t1 : ¬ (k : Int) < (n0 : Int) := by omega
      obtain rfl : k = n0 := by omega
      have hqR : q ≤ R := by rw [HQ.out]; exact HF.out
      have t2 : (q : Int) ≤ (R : Int) := by omega
      clear hqR
      go_wp2_with (go_at_call 13; (with_reducible refine (HMO.out wr).mono ?_); rintro e w3 ⟨rfl, rfl⟩)
      go_ret
      exact ⟨rfl, B⟩
theorem few25_z (A0 A1 A2 : Option Addr) (n0 n1 n2 c0 c1 c2 : Nat) (l : List Nat) (zs zs' : List Int) (hl : l.length = n0) (hb1 : zs.length = n1) (hb2 : zs'.length = n2) (hnc1 : n1 ≤ c1) (hnc2 : n2 ≤ c2) (hb : ∀ n ∈ zs, (Lit.int .u8 n).wf = true) (hc : ∀ n ∈ zs', (Lit.int .u8 n).wf = true) (w : World)
    (hr0 : Rs w A0 (us l)) (hr1 : Rs w A1 (zs.map fun n => Value.int .u8 n)) (hr2 : Rs w A2 (zs'.map fun n => Value.int .u8 n)) :
    Calls Try.prog 4 #[.slice A0 n0 c0, .slice A1 n1 c1, .slice A2 n2 c2] w fun e w' => e = .returned (.bool true) ∧ Below w.heap.size w w' := by
  obtain ⟨xs, hxl, hxe, hxb⟩ := bytes_of hb
  obtain ⟨ys, hyl, hye, hyb⟩ := bytes_of hc
  rw [hxe] at hr1
  rw [hye] at hr2
  by_cases h : 100 < n1 ∨ 100 < n2 ∨ 40 < n0
  · exact few_skip A0 A1 A2 n0 n1 n2 c0 c1 c2 w h
  · exact few_main A0 A1 A2 n0 n1 n2 c0 c1 c2 l xs ys hl (hxl.trans hb1) (hyl.trans hb2) hnc1 hnc2 hxb hyb w hr0 hr1 hr2 (by omega) (by omega) (by omega)
end Go.Proofs.Ytaeebipcgeembaa
