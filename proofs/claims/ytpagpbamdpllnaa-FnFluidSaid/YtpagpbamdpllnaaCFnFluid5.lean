/- Fluid costs are no less than the least, parts keep the order of what they are for: no condition but the statement's own. -/
import Derived.Test.YtpagpbamdpllnaaCFnFluid0
import Derived.Test.YtpagpbamdpllnaaCFnFluid3
import Derived.Test.YtpagpbamdpllnaaCFnFluid4
import Derived.Test.YtpagpbamdpllnaaCFnFluid1
import Derived.Test.YtpagpbamdpllnaaCFnFluid2
set_option linter.unusedVariables false
set_option linter.unusedSimpArgs false
namespace Go.Proofs.Ytpagpbamdpllnaa.Pure
open Go.RowKit Go.Proofs.Ytpagpbamdpllnaa.Print Go.Proofs.YtpagpbamdpllnaaW.PrintWords Go.Proofs.YtpagpbamdpllnaaW.PrintLast Go.Proofs.YtpagpbamdpllnaaW.PrintMore

theorem spec_l1In_eq (n lo hi : Int) : spec_l1In.f n lo hi = some (decide (lo ≤ n) && decide (n ≤ hi)) := by
  unfold spec_l1In.f
  by_cases h : n ≥ lo
  · rw [if_pos h, decide_eq_true (show lo ≤ n from h)]; simp
  · rw [if_neg h, decide_eq_false (show ¬ lo ≤ n from h)]; simp

theorem impl_within_eq (n lo hi : Int) : impl_within.f n lo hi = some (decide (lo ≤ n) && decide (n ≤ hi)) := by
  unfold impl_within.f
  by_cases h : n ≥ lo
  · rw [if_pos h, decide_eq_true (show lo ≤ n from h)]; simp
  · rw [if_neg h, decide_eq_false (show ¬ lo ≤ n from h)]; simp

theorem spec_l1All_ev (l : List Int) (lo hi : Int) (hl : l.length < 4611686018427387904) : Ev (fun k => spec_l1All.f k l lo hi) (allIn l lo hi) := by
  unfold spec_l1All.f
  refine ev_up l.length (fun k i => spec_l1All.l0 k lo hi l (l.length : Int) (i : Int)) _ (fun i => allIn (l.take i) lo hi = true) (by simp [allIn]) ?_ ?_
  · intro hI
    refine Ev.step0 (Ev.of_eq fun _ => rfl) fun k => ?_
    simp only [spec_l1All.l0]; rw [if_neg (by omega)]
    rw [List.take_length] at hI; rw [hI]
  · intro i hi' hI hn
    cases hb : (decide (lo ≤ l[i]) && decide (l[i] ≤ hi)) with
    | true =>
      refine Ev.step0 (hn (all_take_succ l _ i hi' hI hb)) fun k => ?_
      simp only [spec_l1All.l0]; rw [if_pos (lt_len hi'), if_pos (by omega), if_pos (lt_len hi'), rd_nat l i hi', spec_l1In_eq, hb]
      simp only [Option.bind_some, if_true]; rw [w64 (by omega) (by omega)]; rfl
    | false =>
      refine Ev.step0 (Ev.of_eq fun _ => rfl) fun k => ?_
      simp only [spec_l1All.l0]; rw [if_pos (lt_len hi'), if_pos (by omega), if_pos (lt_len hi'), rd_nat l i hi', spec_l1In_eq, hb]
      simp only [Option.bind_some]; rw [if_neg (by decide)]
      rw [show allIn l lo hi = false from all_take_false l _ i hi' hb]

theorem impl_allWithin_ev (l : List Int) (lo hi : Int) (hl : l.length < 4611686018427387904) : Ev (fun k => impl_allWithin.f k l lo hi) (allIn l lo hi) := by
  unfold impl_allWithin.f sl2_ContainsFunc.f sl5_IndexFunc.f
  have key : ∃ j : Int, decide (j ≥ 0) = !(allIn l lo hi) ∧ Ev (fun k => sl5_IndexFunc.l0 k l (l.length : Int) 0 lo hi) j := by
    have hc : ∀ x : Int, impl_allWithin_1.f x lo hi = some (!(decide (lo ≤ x) && decide (x ≤ hi))) := fun x => by
      unfold impl_allWithin_1.f; rw [impl_within_eq]; rfl
    cases ha : allIn l lo hi with
    | true =>
      refine ⟨-1, by decide, ?_⟩
      refine ev_up l.length (fun k i => sl5_IndexFunc.l0 k l (l.length : Int) (i : Int) lo hi) _ (fun _ => True) trivial ?_ ?_
      · intro _
        refine Ev.step0 (Ev.of_eq fun _ => rfl) fun k => ?_
        simp only [sl5_IndexFunc.l0]; rw [if_neg (by omega)]
      · intro i hi' _ hn
        have hb := (allIn_iff l lo hi).mp ha l[i] (List.getElem_mem hi')
        refine Ev.step0 (hn trivial) fun k => ?_
        simp only [sl5_IndexFunc.l0]; rw [if_pos (lt_len hi'), if_pos (by omega), if_pos (lt_len hi'), rd_nat l i hi', hc, decide_eq_true hb.1, decide_eq_true hb.2]
        simp only [Option.bind_some]; rw [if_neg (by decide), w64 (by omega) (by omega)]; rfl
    | false =>
      have : ∃ i : Nat, i < l.length ∧ Ev (fun k => sl5_IndexFunc.l0 k l (l.length : Int) 0 lo hi) (i : Int) := by
        obtain ⟨i, hi', hp, hlt⟩ : ∃ i : Nat, ∃ h : i < l.length, (decide (lo ≤ l[i]) && decide (l[i] ≤ hi)) = false ∧ ∀ j, ∀ hj : j < i, (decide (lo ≤ l[j]) && decide (l[j] ≤ hi)) = true := by
          have h1 : ∃ i : Nat, ∃ h : i < l.length, (decide (lo ≤ l[i]) && decide (l[i] ≤ hi)) = false := by
            unfold allIn at ha
            rw [List.all_eq_false] at ha
            obtain ⟨x, hx, hp⟩ := ha
            obtain ⟨i, hi', rfl⟩ := List.getElem_of_mem hx
            exact ⟨i, hi', by simpa using hp⟩
          obtain ⟨m, hm, hmin⟩ := exists_least h1
          obtain ⟨hm1, hm2⟩ := hm
          refine ⟨m, hm1, hm2, fun j hj => ?_⟩
          cases hq : (decide (lo ≤ l[j]) && decide (l[j] ≤ hi)) with
          | true => rfl
          | false => have := hmin j ⟨by omega, hq⟩; omega
        refine ⟨i, hi', ?_⟩
        refine ev_up i (fun k i => sl5_IndexFunc.l0 k l (l.length : Int) (i : Int) lo hi) _ (fun _ => True) trivial ?_ ?_
        · intro _
          refine Ev.step0 (Ev.of_eq fun _ => rfl) fun k => ?_
          simp only [sl5_IndexFunc.l0]; rw [if_pos (lt_len hi'), if_pos (by omega), if_pos (lt_len hi'), rd_nat l i hi', hc, hp]
          simp
        · intro j hj _ hn
          have hj' : j < l.length := by omega
          refine Ev.step0 (hn trivial) fun k => ?_
          simp only [sl5_IndexFunc.l0]; rw [if_pos (lt_len hj'), if_pos (by omega), if_pos (lt_len hj'), rd_nat l j hj', hc, hlt j hj]
          simp only [Option.bind_some]; rw [if_neg (by decide), w64 (by omega) (by omega)]; rfl
      obtain ⟨i, _, hi2⟩ := this
      exact ⟨i, by simp, hi2⟩
  obtain ⟨j, hj, hev⟩ := key
  refine Ev.to (Ev.bind (Ev.bind hev (Ev.now _)) (Ev.now _)) ?_
  rw [hj]; simp

theorem spec_l3Sum_ev (l : List Int) (lo hi : Int) (h : ∀ x ∈ l, lo ≤ x ∧ x ≤ hi) (hlo : -1048576 ≤ lo) (hhi : hi ≤ 1073741824) (hl : l.length ≤ 1048576) : Ev (fun k => spec_l3Sum.f k l) l.sum := by
  unfold spec_l3Sum.f
  refine ev_up l.length (fun k i => spec_l3Sum.l0 k (l.take i).sum l (l.length : Int) (i : Int)) _ (fun _ => True) trivial ?_ ?_
  · intro _
    refine Ev.step0 (Ev.of_eq fun _ => rfl) fun k => ?_
    simp only [spec_l3Sum.l0]; rw [if_neg (by omega), List.take_length]
  · intro i hi' _ hn
    have hs := sum_take_succ l i hi'
    have hb := sum_bounds (l.take (i + 1)) (-1048576) 1073741824 fun x hx => by have := h x (List.mem_of_mem_take hx); omega
    have hlen : (l.take (i + 1)).length ≤ 1048576 := by rw [List.length_take]; omega
    refine Ev.step0 (hn trivial) fun k => ?_
    simp only [spec_l3Sum.l0]; rw [if_pos (lt_len hi'), if_pos (by omega), if_pos (lt_len hi'), rd_nat l i hi', ← hs, w64 (by omega) (by omega), w64 (by omega) (by omega)]; rfl

theorem impl_sum_ev (l : List Int) (lo hi : Int) (h : ∀ x ∈ l, lo ≤ x ∧ x ≤ hi) (hlo : -1048576 ≤ lo) (hhi : hi ≤ 1073741824) (hl : l.length ≤ 1048576) : Ev (fun k => impl_sum.f k l) l.sum := by
  unfold impl_sum.f
  refine ev_up l.length (fun k i => impl_sum.l0 k (l.take i).sum l (l.length : Int) (i : Int)) _ (fun _ => True) trivial ?_ ?_
  · intro _
    refine Ev.step0 (Ev.of_eq fun _ => rfl) fun k => ?_
    simp only [impl_sum.l0]; rw [if_neg (by omega), List.take_length]
  · intro i hi' _ hn
    have hs := sum_take_succ l i hi'
    have hb := sum_bounds (l.take (i + 1)) (-1048576) 1073741824 fun x hx => by have := h x (List.mem_of_mem_take hx); omega
    have hlen : (l.take (i + 1)).length ≤ 1048576 := by rw [List.length_take]; omega
    refine Ev.step0 (hn trivial) fun k => ?_
    simp only [impl_sum.l0]; rw [if_pos (lt_len hi'), if_pos (by omega), if_pos (lt_len hi'), rd_nat l i hi', ← hs, w64 (by omega) (by omega), w64 (by omega) (by omega)]; rfl

theorem natAbs_tmod (a b : Int) : (Int.tmod a b).natAbs = a.natAbs % b.natAbs := by
  rw [Int.natAbs_tmod]
theorem tmod_bounds (a b : Int) (hb : b ≠ 0) : -(b.natAbs : Int) < Int.tmod a b ∧ Int.tmod a b < b.natAbs := by
  have h := natAbs_tmod a b
  have h2 : a.natAbs % b.natAbs < b.natAbs := Nat.mod_lt _ (Int.natAbs_pos.mpr hb)
  omega
theorem gcd_step (a b : Int) : Int.gcd b (Int.tmod a b) = Int.gcd a b := by
  unfold Int.gcd
  rw [natAbs_tmod, Nat.gcd_comm b.natAbs, ← Nat.gcd_rec, Nat.gcd_comm]
theorem gcd_le (a b m : Int) (h : a ≠ 0 ∨ b ≠ 0) (ha : -m ≤ a ∧ a ≤ m) (hb : -m ≤ b ∧ b ≤ m) : 1 ≤ (Int.gcd a b : Int) ∧ (Int.gcd a b : Int) ≤ m := by
  have hpos : 0 < Int.gcd a b := by
    rcases Nat.eq_zero_or_pos (Int.gcd a b) with h0 | h0
    · rw [Int.gcd_eq_zero_iff] at h0; omega
    · exact h0
  refine ⟨by omega, ?_⟩
  rcases h with h | h
  · have := Nat.le_of_dvd (Int.natAbs_pos.mpr h) (Int.gcd_dvd_natAbs_left a b); omega
  · have := Nat.le_of_dvd (Int.natAbs_pos.mpr h) (Int.gcd_dvd_natAbs_right a b); omega

theorem spec_l1Abs_eq (a : Int) (h : -9223372036854775808 < a ∧ a < 9223372036854775808) : spec_l1Abs.f a = some (a.natAbs : Int) := by
  unfold spec_l1Abs.f
  by_cases h0 : a < 0
  · rw [if_pos h0, w64 (by omega) (by omega)]; congr 1; omega
  · rw [if_neg h0]; congr 1; omega
theorem spec_l1Gcd_ev (a b : Int) (ha : -9223372036854775808 < a ∧ a < 9223372036854775808) (hb : -9223372036854775808 < b ∧ b < 9223372036854775808) : Ev (fun k => spec_l1Gcd.f k a b) (Int.gcd a b : Int) := by
  unfold spec_l1Gcd.f
  refine Ev.bind0 (spec_l1Abs_eq a ha) (Ev.bind0 (spec_l1Abs_eq b hb) ?_)
  have key : ∀ (n m : Nat), Ev (fun k => spec_l1Gcd.l0 k (m : Int) (n : Int)) (Nat.gcd m n : Int) := by
    intro n
    induction n using Nat.strongRecOn with
    | _ n ih =>
      intro m
      rcases Nat.eq_zero_or_pos n with h0 | h0
      · subst h0
        refine Ev.step0 (Ev.of_eq fun _ => rfl) fun k => ?_
        simp only [spec_l1Gcd.l0]; rw [if_neg (by omega)]; simp
      · have h1 := ih (m % n) (Nat.mod_lt _ h0) n
        refine Ev.to (Ev.step0 h1 fun k => ?_) ?_
        · simp only [spec_l1Gcd.l0]; rw [if_pos (by omega), if_neg (by omega)]; rfl
        · rw [Nat.gcd_comm n, ← Nat.gcd_rec, Nat.gcd_comm]
  exact key b.natAbs a.natAbs

theorem mx_abs (a : Int) (h : -9223372036854775808 < a ∧ a < 9223372036854775808) : mx a (wrap64 (-a)) = (a.natAbs : Int) := by
  rw [w64 (by omega) (by omega)]; unfold mx; split <;> omega
theorem impl_divisor_ev (a b : Int) (ha : -9223372036854775808 < a ∧ a < 9223372036854775808) (hb : -9223372036854775808 < b ∧ b < 9223372036854775808) : Ev (fun k => impl_divisor.f k a b) (Int.gcd a b : Int) := by
  unfold impl_divisor.f
  have key : ∀ (n : Nat) (a b : Int), b.natAbs = n → (-9223372036854775808 < a ∧ a < 9223372036854775808) → (-9223372036854775808 < b ∧ b < 9223372036854775808) → Ev (fun k => impl_divisor.l0 k a b) (Int.gcd a b : Int) := by
    intro n
    induction n using Nat.strongRecOn with
    | _ n ih =>
      intro a b hn ha hb
      by_cases h0 : b = 0
      · subst h0
        refine Ev.step0 (Ev.of_eq fun _ => rfl) fun k => ?_
        simp only [impl_divisor.l0]; rw [if_true, mx_abs a ha]; simp
      · have hm := tmod_bounds a b h0
        have h1 := ih (Int.tmod a b).natAbs (by omega) b (Int.tmod a b) rfl hb (by omega)
        refine Ev.to (Ev.step0 h1 fun k => ?_) (by rw [gcd_step])
        simp only [impl_divisor.l0]; rw [if_neg h0]
  exact key _ a b rfl ha hb

def lowNum (a b : Int) : Int := if b < 0 then Int.tdiv (-a) (Int.gcd a b) else Int.tdiv a (Int.gcd a b)
def lowDen (a b : Int) : Int := if b < 0 then Int.tdiv (-b) (Int.gcd a b) else Int.tdiv b (Int.gcd a b)
theorem tdiv_small (a g m : Int) (hg : 1 ≤ g) (h : -m ≤ a ∧ a ≤ m) : -m ≤ Int.tdiv a g ∧ Int.tdiv a g ≤ m := by
  have h1 : (Int.tdiv a g).natAbs ≤ a.natAbs := by
    rw [Int.natAbs_tdiv]; exact Nat.div_le_self _ _
  omega

theorem spec_l1Make_ev (a b : Int) (ha : -9223372036854775808 < a ∧ a < 9223372036854775808) (hb : -9223372036854775808 < b ∧ b < 9223372036854775808) (h0 : b ≠ 0) : Ev (fun k => spec_l1Make.f k a b) (lowNum a b, lowDen a b) := by
  unfold spec_l1Make.f lowNum lowDen
  have hg := gcd_le a b 9223372036854775807 (.inr h0) (by omega) (by omega)
  refine Ev.ite (fun h => ?_) (fun h => ?_)
  · rw [if_pos h, if_pos h, w64 (x := -a) (by omega) (by omega), w64 (x := -b) (by omega) (by omega)]
    have e : Int.gcd (-a) (-b) = Int.gcd a b := by simp [Int.gcd]
    refine Ev.bind (Ev.to (spec_l1Gcd_ev (-a) (-b) (by omega) (by omega)) (by rw [e])) (Ev.neg (by omega) (Ev.of_eq fun _ => ?_))
    have h1 := tdiv_small (-a) (Int.gcd a b) 9223372036854775807 hg.1 (by omega)
    have h2 := tdiv_small (-b) (Int.gcd a b) 9223372036854775807 hg.1 (by omega)
    rw [w64 (by omega) (by omega), w64 (by omega) (by omega)]
  · rw [if_neg h, if_neg h]
    refine Ev.bind (spec_l1Gcd_ev a b ha hb) (Ev.neg (by omega) (Ev.of_eq fun _ => ?_))
    have h1 := tdiv_small a (Int.gcd a b) 9223372036854775807 hg.1 (by omega)
    have h2 := tdiv_small b (Int.gcd a b) 9223372036854775807 hg.1 (by omega)
    rw [w64 (by omega) (by omega), w64 (by omega) (by omega)]

def goodFrac (a b : Int) : Bool := decide (-1000000000 ≤ a) && decide (a ≤ 1000000000) && (decide (1 ≤ b) && decide (b ≤ 1000000000)) && decide (Int.gcd a b = 1)
theorem goodFrac_iff (a b : Int) : goodFrac a b = true ↔ (-1000000000 ≤ a ∧ a ≤ 1000000000) ∧ (1 ≤ b ∧ b ≤ 1000000000) ∧ Int.gcd a b = 1 := by
  simp [goodFrac, and_assoc]

theorem impl_GoodFrac_ev (a b : Int) : Ev (fun k => impl_GoodFrac.f k a b) (goodFrac a b) := by
  unfold impl_GoodFrac.f goodFrac
  refine Ev.bind0 (impl_within_eq _ _ _) ?_
  by_cases h1 : -1000000000 ≤ a ∧ a ≤ 1000000000
  · rw [decide_eq_true h1.1, decide_eq_true h1.2]
    refine Ev.pos rfl (Ev.bind0 (impl_within_eq _ _ _) ?_)
    by_cases h2 : 1 ≤ b ∧ b ≤ 1000000000
    · rw [decide_eq_true h2.1, decide_eq_true h2.2]
      refine Ev.pos rfl (Ev.to (Ev.bind (impl_divisor_ev a b (by omega) (by omega)) (Ev.now _)) ?_)
      simp only [Bool.and_self, Bool.true_and]
      rw [Bool.eq_iff_iff]; simp; omega
    · refine Ev.neg (by simpa using fun h => by omega) (Ev.of_eq fun _ => ?_)
      have : (decide (1 ≤ b) && decide (b ≤ 1000000000)) = false := by simpa using fun h => by omega
      rw [this]; simp
  · refine Ev.neg (by simpa using fun h => by omega) (Ev.of_eq fun _ => ?_)
    have : (decide (-1000000000 ≤ a) && decide (a ≤ 1000000000)) = false := by simpa using fun h => by omega
    rw [this]; simp

theorem spec_GoodFrac_ev (a b : Int) : Ev (fun k => spec_GoodFrac.f k a b) (goodFrac a b) := by
  unfold spec_GoodFrac.f goodFrac
  refine Ev.bind0 (spec_l1In_eq _ _ _) ?_
  by_cases h1 : -1000000000 ≤ a ∧ a ≤ 1000000000
  · rw [decide_eq_true h1.1, decide_eq_true h1.2]
    refine Ev.pos rfl (Ev.bind0 (spec_l1In_eq _ _ _) ?_)
    by_cases h2 : 1 ≤ b ∧ b ≤ 1000000000
    · rw [decide_eq_true h2.1, decide_eq_true h2.2]
      refine Ev.pos rfl (Ev.to (Ev.bind (spec_l1Gcd_ev a b (by omega) (by omega)) (Ev.now _)) ?_)
      simp only [Bool.and_self, Bool.true_and]
      rw [Bool.eq_iff_iff]; simp; omega
    · refine Ev.neg (by simpa using fun h => by omega) (Ev.of_eq fun _ => ?_)
      have : (decide (1 ≤ b) && decide (b ≤ 1000000000)) = false := by simpa using fun h => by omega
      rw [this]; simp
  · refine Ev.neg (by simpa using fun h => by omega) (Ev.of_eq fun _ => ?_)
    have : (decide (-1000000000 ≤ a) && decide (a ≤ 1000000000)) = false := by simpa using fun h => by omega
    rw [this]; simp

theorem impl_lowest_ev (a b : Int) (ha : -9223372036854775808 < a ∧ a < 9223372036854775808) (hb : -9223372036854775808 < b ∧ b < 9223372036854775808) (h0 : b ≠ 0) :
    Ev (fun k => impl_lowest.f k a b) (if goodFrac (lowNum a b) (lowDen a b) = true then (lowNum a b, lowDen a b, true) else (0, 0, false)) := by
  unfold impl_lowest.f lowNum lowDen
  have hg := gcd_le a b 9223372036854775807 (.inr h0) (by omega) (by omega)
  refine Ev.bind (impl_divisor_ev a b ha hb) ?_
  refine Ev.ite (fun h => ?_) (fun h => ?_)
  · rw [if_pos h, if_pos h, w64 (x := -(Int.gcd a b : Int)) (by omega) (by omega)]
    have h1 := tdiv_small (-a) (Int.gcd a b) 9223372036854775807 hg.1 (by omega)
    have h2 := tdiv_small (-b) (Int.gcd a b) 9223372036854775807 hg.1 (by omega)
    have e1 : Int.tdiv a (-(Int.gcd a b : Int)) = Int.tdiv (-a) (Int.gcd a b) := by rw [Int.tdiv_neg, Int.neg_tdiv]
    have e2 : Int.tdiv b (-(Int.gcd a b : Int)) = Int.tdiv (-b) (Int.gcd a b) := by rw [Int.tdiv_neg, Int.neg_tdiv]
    refine Ev.neg (by omega) ?_
    rw [e1, e2, w64 (by omega) (by omega), w64 (by omega) (by omega)]
    refine Ev.bind (impl_GoodFrac_ev _ _) ?_
    refine Ev.ite (fun hq => ?_) (fun hq => ?_)
    · rw [if_pos hq]; exact Ev.now _
    · rw [if_neg hq]; exact Ev.now _
  · rw [if_neg h, if_neg h]
    have h1 := tdiv_small a (Int.gcd a b) 9223372036854775807 hg.1 (by omega)
    have h2 := tdiv_small b (Int.gcd a b) 9223372036854775807 hg.1 (by omega)
    refine Ev.neg (by omega) ?_
    rw [w64 (by omega) (by omega), w64 (by omega) (by omega)]
    refine Ev.bind (impl_GoodFrac_ev _ _) ?_
    refine Ev.ite (fun hq => ?_) (fun hq => ?_)
    · rw [if_pos hq]; exact Ev.now _
    · rw [if_neg hq]; exact Ev.now _

theorem low_gcd (a b : Int) (h : 0 < b) : Int.gcd (lowNum a b) (lowDen a b) = 1 := by
  unfold lowNum lowDen
  rw [if_neg (by omega), if_neg (by omega)]
  unfold Int.gcd
  have hpos : 0 < Nat.gcd a.natAbs b.natAbs := Nat.gcd_pos_of_pos_right _ (by omega)
  rw [Int.natAbs_tdiv, Int.natAbs_tdiv, Int.natAbs_natCast]
  exact Nat.gcd_div_gcd_div_gcd_of_pos_right (by omega)
theorem low_den_pos (a b : Int) (h : 0 < b) : 1 ≤ lowDen a b ∧ lowDen a b ≤ b := by
  unfold lowDen
  rw [if_neg (by omega)]
  have hg := gcd_le a b b (.inr (by omega))
  obtain ⟨n, rfl⟩ := exists_nat_of_nonneg (Int.le_of_lt h)
  have hd : Int.gcd a (n : Int) ∣ n := by have := Int.gcd_dvd_natAbs_right a (n : Int); simpa using this
  have hp : 0 < Int.gcd a (n : Int) := Nat.pos_of_dvd_of_pos hd (by omega)
  rw [show Int.tdiv (n : Int) (Int.gcd a (n : Int) : Int) = ((n / Int.gcd a (n : Int) : Nat) : Int) from rfl]
  have h1 : 1 ≤ n / Int.gcd a (n : Int) := Nat.div_pos (Nat.le_of_dvd (by omega) hd) hp
  have h2 : n / Int.gcd a (n : Int) ≤ n := Nat.div_le_self _ _
  omega
theorem low_num_le (a b m : Int) (h : 0 < b) (ha : -m ≤ a ∧ a ≤ m) : -m ≤ lowNum a b ∧ lowNum a b ≤ m := by
  unfold lowNum
  rw [if_neg (by omega)]
  have hp : 0 < Int.gcd a b := by
    rcases Nat.eq_zero_or_pos (Int.gcd a b) with h0 | h0
    · rw [Int.gcd_eq_zero_iff] at h0; omega
    · exact h0
  exact tdiv_small a _ m (by omega) ha
theorem low_good (a b : Int) (ha : -1000000000 ≤ a ∧ a ≤ 1000000000) (hb : 1 ≤ b ∧ b ≤ 1000000000) : goodFrac (lowNum a b) (lowDen a b) = true := by
  rw [goodFrac_iff]
  have h1 := low_num_le a b 1000000000 (by omega) ha
  have h2 := low_den_pos a b (by omega)
  exact ⟨h1, ⟨h2.1, by omega⟩, low_gcd a b (by omega)⟩
theorem low_cross (a b : Int) (h : 0 < b) : lowNum a b * b = a * lowDen a b := by
  unfold lowNum lowDen
  rw [if_neg (by omega), if_neg (by omega)]
  have h1 : (Int.gcd a b : Int) * Int.tdiv a (Int.gcd a b) = a := Int.mul_tdiv_cancel' (Int.gcd_dvd_left a b)
  have h2 : (Int.gcd a b : Int) * Int.tdiv b (Int.gcd a b) = b := Int.mul_tdiv_cancel' (Int.gcd_dvd_right a b)
  generalize Int.tdiv a (Int.gcd a b) = p at h1 ⊢
  generalize Int.tdiv b (Int.gcd a b) = q at h2 ⊢
  rw [← h1]
  conv => lhs; rw [← h2]
  rw [Int.mul_assoc, Int.mul_comm p, Int.mul_assoc, Int.mul_comm q p]

def flowOk (flow : List Int) : Bool := decide (1 ≤ (flow.length : Int)) && decide ((flow.length : Int) ≤ 8) && allIn flow 1 30
def countsOk (flow counts : List Int) : Bool := flowOk flow && (decide ((counts.length : Int) = (flow.length : Int)) && (allIn counts 1 40 && decide (counts.sum ≤ 40)))
theorem flowOk_iff (flow : List Int) : flowOk flow = true ↔ (1 ≤ flow.length ∧ flow.length ≤ 8) ∧ ∀ x ∈ flow, 1 ≤ x ∧ x ≤ 30 := by
  simp only [flowOk, Bool.and_eq_true, decide_eq_true_eq, allIn_iff]
  constructor
  · rintro ⟨⟨h1, h2⟩, h3⟩; exact ⟨⟨by omega, by omega⟩, h3⟩
  · rintro ⟨⟨h1, h2⟩, h3⟩; exact ⟨⟨by omega, by omega⟩, h3⟩
theorem spec_l4Flow_ev (flow : List Int) (h : flow.length < 4611686018427387904) : Ev (fun k => spec_l4Flow.f k flow) (flowOk flow) := by
  unfold spec_l4Flow.f flowOk
  refine Ev.bind0 (spec_l1In_eq _ _ _) ?_
  refine Ev.ite (fun hc => ?_) (fun hc => ?_)
  · rw [hc]; refine Ev.bind (spec_l1All_ev flow 1 30 h) ?_; simpa using Ev.now _
  · rw [Bool.eq_false_iff.mpr hc]; exact Ev.now _

theorem impl_isFlow_ev (flow : List Int) (h : flow.length < 4611686018427387904) : Ev (fun k => impl_isFlow.f k flow) (flowOk flow) := by
  unfold impl_isFlow.f flowOk
  refine Ev.bind0 (impl_within_eq _ _ _) ?_
  refine Ev.ite (fun hc => ?_) (fun hc => ?_)
  · rw [hc]; refine Ev.bind (impl_allWithin_ev flow 1 30 h) ?_; simpa using Ev.now _
  · rw [Bool.eq_false_iff.mpr hc]; exact Ev.now _

def gn (f c : Int) : Int := lowNum f (c * (c + 1))
def gd (f c : Int) : Int := lowDen f (c * (c + 1))
theorem mul_small {a b m n : Int} (ha : 0 ≤ a ∧ a ≤ m) (hb : 0 ≤ b ∧ b ≤ n) : 0 ≤ a * b ∧ a * b ≤ m * n :=
  ⟨Int.mul_nonneg ha.1 hb.1, Int.mul_le_mul ha.2 hb.2 hb.1 (by omega)⟩
def bestUp (lt : Nat → Nat → Bool) : Nat → Nat
  | 0 => 0
  | i + 1 => if lt (bestUp lt i) i = true then i else bestUp lt i
def gainLt (flow counts : List Int) (b i : Nat) : Bool := decide (gn flow[b]! counts[b]! * gd flow[i]! counts[i]! < gn flow[i]! counts[i]! * gd flow[b]! counts[b]!)
def nextOf (flow counts : List Int) : Nat := bestUp (gainLt flow counts) flow.length
theorem impl_compareFracs_eq (a b c d : Int) (h1 : -4000000000000000000 ≤ a * d ∧ a * d ≤ 4000000000000000000) (h2 : -4000000000000000000 ≤ c * b ∧ c * b ≤ 4000000000000000000) :
    impl_compareFracs.f a b c d = some (if a * d < c * b then -1 else if c * b < a * d then 1 else 0) := by
  unfold impl_compareFracs.f
  rw [w64 (x := a * d) (by omega) (by omega), w64 (x := c * b) (by omega) (by omega), w64 (by omega) (by omega)]
  by_cases h : a * d < c * b
  · rw [if_pos (by omega), if_pos h]
  · rw [if_neg (by omega), if_neg h]
    by_cases h' : c * b < a * d
    · rw [if_pos (by omega), if_pos h']
    · rw [if_neg (by omega), if_neg h']

def fits (p : Int × Int) : Int × Int × Bool := if goodFrac p.1 p.2 = true then (p.1, p.2, true) else (0, 0, false)
def bothGood (a b c d : Int) : Bool := goodFrac a b && goodFrac c d
theorem bothGood_iff (a b c d : Int) : bothGood a b c d = true ↔ goodFrac a b = true ∧ goodFrac c d = true := by simp [bothGood]
theorem mul_abs_le {a b m n : Int} (ha : -m ≤ a ∧ a ≤ m) (hb : -n ≤ b ∧ b ≤ n) (hm : 0 ≤ m) (hn : 0 ≤ n) : -(m * n) ≤ a * b ∧ a * b ≤ m * n := by
  have h1 : a.natAbs ≤ m.natAbs := by omega
  have h2 : b.natAbs ≤ n.natAbs := by omega
  have h3 : (a * b).natAbs ≤ (m * n).natAbs := by rw [Int.natAbs_mul, Int.natAbs_mul]; exact Nat.mul_le_mul h1 h2
  have h4 : 0 ≤ m * n := Int.mul_nonneg hm hn
  omega
theorem prod_e18 {a b : Int} (ha : -1000000000 ≤ a ∧ a ≤ 1000000000) (hb : -1000000000 ≤ b ∧ b ≤ 1000000000) : -1000000000000000000 ≤ a * b ∧ a * b ≤ 1000000000000000000 := by
  have := mul_abs_le ha hb (by omega) (by omega); omega
theorem prod_pos {a b : Int} (ha : 1 ≤ a ∧ a ≤ 1000000000) (hb : 1 ≤ b ∧ b ≤ 1000000000) : 1 ≤ a * b ∧ a * b ≤ 1000000000000000000 := by
  have h := prod_e18 (a := a) (b := b) (by omega) (by omega)
  have h2 : 0 < a * b := Int.mul_pos (by omega) (by omega)
  omega
def addF (a b c d : Int) : Int × Int × Bool := if bothGood a b c d = true then fits (lowNum (a * d + c * b) (b * d), lowDen (a * d + c * b) (b * d)) else (0, 0, false)
def subF (a b c d : Int) : Int × Int × Bool := if bothGood a b c d = true then fits (lowNum (a * d - c * b) (b * d), lowDen (a * d - c * b) (b * d)) else (0, 0, false)
def mulF (a b c d : Int) : Int × Int × Bool := if bothGood a b c d = true then fits (lowNum (a * c) (b * d), lowDen (a * c) (b * d)) else (0, 0, false)
def divF (a b c d : Int) : Int × Int × Bool := if bothGood a b c d = true ∧ c ≠ 0 then fits (lowNum (a * d) (b * c), lowDen (a * d) (b * c)) else (0, 0, false)
def lessF (a b c d : Int) : Bool × Bool := if bothGood a b c d = true then (decide (a * d < c * b), true) else (false, false)
def floorF (a b : Int) : Int × Bool := if goodFrac a b = true then (a / b, true) else (0, false)

theorem impl_areFracs_ev (l : List S35) (hl : l.length ≤ 1048576) : Ev (fun k => impl_areFracs.f k l) (l.all fun x => goodFrac x.f0 x.f1) := by
  unfold impl_areFracs.f sl1_ContainsFunc.f sl4_IndexFunc.f
  have hc : ∀ x : S35, Ev (fun k => impl_areFracs_1.f k x.f0 x.f1) (!goodFrac x.f0 x.f1) := fun x => by
    unfold impl_areFracs_1.f; exact Ev.bind (impl_GoodFrac_ev _ _) (Ev.now _)
  have hr : ∀ (i : Nat) (h : i < l.length), rd_T35 l (i : Int) = l[i] := fun i h => by simp [rd_T35, h]
  have key : ∃ j : Int, decide (j ≥ 0) = !(l.all fun x => goodFrac x.f0 x.f1) ∧ Ev (fun k => sl4_IndexFunc.l0 k l (l.length : Int) 0) j := by
    have gen : ∀ (d i : Nat), i + d = l.length → ∃ j : Int, decide (j ≥ 0) = !((l.drop i).all fun x => goodFrac x.f0 x.f1) ∧ Ev (fun k => sl4_IndexFunc.l0 k l (l.length : Int) (i : Int)) j := by
      intro d
      induction d with
      | zero =>
        intro i hi
        refine ⟨-1, by rw [List.drop_of_length_le (by omega)]; decide, Ev.succ ?_⟩
        simp only [sl4_IndexFunc.l0]; exact Ev.neg (by omega) (Ev.now _)
      | succ d ih =>
        intro i hi
        have hi' : i < l.length := by omega
        have hd : (l.drop i).all (fun x => goodFrac x.f0 x.f1) = (goodFrac l[i].f0 l[i].f1 && (l.drop (i + 1)).all fun x => goodFrac x.f0 x.f1) := by
          rw [List.drop_eq_getElem_cons hi', List.all_cons]
        cases hg : goodFrac l[i].f0 l[i].f1 with
        | true =>
          obtain ⟨j, hj, hev⟩ := ih (i + 1) (by omega)
          refine ⟨j, by rw [hd, hg, hj]; simp, Ev.succ ?_⟩
          simp only [sl4_IndexFunc.l0]
          refine Ev.pos (lt_len hi') (Ev.pos (by omega) (Ev.pos (lt_len hi') ?_))
          rw [hr i hi', w64 (by omega) (by omega)]
          refine Ev.bind (hc _) (Ev.neg (by rw [hg]; simp) hev)
        | false =>
          refine ⟨i, by rw [hd, hg]; simp, Ev.succ ?_⟩
          simp only [sl4_IndexFunc.l0]
          refine Ev.pos (lt_len hi') (Ev.pos (by omega) (Ev.pos (lt_len hi') ?_))
          rw [hr i hi']
          refine Ev.bind (hc _) (Ev.pos (by rw [hg]; rfl) (Ev.now _))
    have := gen l.length 0 (by omega)
    simpa using this
  obtain ⟨j, hj, hev⟩ := key
  refine Ev.to (Ev.bind (Ev.bind hev (Ev.now _)) (Ev.now _)) ?_
  rw [hj]; simp
theorem impl_two_ev (a b c d : Int) : Ev (fun k => impl_areFracs.f k [(⟨a, b⟩ : S35), (⟨c, d⟩ : S35)]) (bothGood a b c d) :=
  Ev.to (impl_areFracs_ev _ (by simp)) (by simp [bothGood])

theorem spec_l1Both_ev (a b c d : Int) : Ev (fun k => spec_l1Both.f k a b c d) (bothGood a b c d) := by
  unfold spec_l1Both.f bothGood
  refine Ev.bind (spec_GoodFrac_ev a b) (Ev.ite (fun h => ?_) (fun h => ?_))
  · rw [h]; refine Ev.bind (spec_GoodFrac_ev c d) ?_; simpa using Ev.now _
  · rw [Bool.eq_false_iff.mpr h]; exact Ev.now _

theorem spec_l1Fits_ev (a b : Int) : Ev (fun k => spec_l1Fits.f k a b) (fits (a, b)) := by
  unfold spec_l1Fits.f fits
  refine Ev.bind (spec_GoodFrac_ev a b) (Ev.ite (fun h => ?_) (fun h => ?_))
  · rw [if_pos h]; exact Ev.now _
  · rw [if_neg h]; exact Ev.now _

theorem impl_lowest_fits (a b : Int) (ha : -9223372036854775808 < a ∧ a < 9223372036854775808) (hb : -9223372036854775808 < b ∧ b < 9223372036854775808) (h0 : b ≠ 0) :
    Ev (fun k => impl_lowest.f k a b) (fits (lowNum a b, lowDen a b)) := impl_lowest_ev a b ha hb h0

theorem impl_AddFrac_ev (a b c d : Int) : Ev (fun k => impl_AddFrac.f k a b c d) (addF a b c d) := by
  unfold impl_AddFrac.f addF
  refine Ev.bind (impl_two_ev a b c d) (Ev.ite (fun h => ?_) (fun h => ?_))
  · rw [if_pos h]
    obtain ⟨h1, h2⟩ := (bothGood_iff _ _ _ _).mp h
    obtain ⟨n1, d1, _⟩ := (goodFrac_iff _ _).mp h1
    obtain ⟨n2, d2, _⟩ := (goodFrac_iff _ _).mp h2
    have p1 := prod_e18 (a := a) (b := d) n1 (by omega)
    have p2 := prod_e18 (a := c) (b := b) n2 (by omega)
    have p3 := prod_pos d1 d2
    rw [w64 (x := a * d) (by omega) (by omega), w64 (x := c * b) (by omega) (by omega), w64 (x := b * d) (by omega) (by omega), w64 (by omega) (by omega)]
    exact Ev.bind (impl_lowest_fits _ _ (by omega) (by omega) (by omega)) (Ev.now _)
  · rw [if_neg h]; exact Ev.now _

theorem impl_LessFrac_ev (a b c d : Int) : Ev (fun k => impl_LessFrac.f k a b c d) (lessF a b c d) := by
  unfold impl_LessFrac.f lessF
  refine Ev.bind (impl_two_ev a b c d) (Ev.ite (fun h => ?_) (fun h => ?_))
  · rw [if_pos h]
    obtain ⟨h1, h2⟩ := (bothGood_iff _ _ _ _).mp h
    obtain ⟨n1, d1, _⟩ := (goodFrac_iff _ _).mp h1
    obtain ⟨n2, d2, _⟩ := (goodFrac_iff _ _).mp h2
    have p1 := prod_e18 (a := a) (b := d) n1 (by omega)
    have p2 := prod_e18 (a := c) (b := b) n2 (by omega)
    refine Ev.bind0 (impl_compareFracs_eq a b c d (by omega) (by omega)) (Ev.of_eq fun _ => ?_)
    by_cases hlt : a * d < c * b
    · simp [hlt]
    · rw [if_neg hlt]; split <;> simp [hlt]
  · rw [if_neg h]; exact Ev.now _

theorem spec_l1Add_ev (a b c d : Int) (n1 : -1000000000 ≤ a ∧ a ≤ 1000000000) (d1 : 1 ≤ b ∧ b ≤ 1000000000) (n2 : -1000000000 ≤ c ∧ c ≤ 1000000000) (d2 : 1 ≤ d ∧ d ≤ 1000000000) :
    Ev (fun k => spec_l1Add.f k a b c d) (lowNum (a * d + c * b) (b * d), lowDen (a * d + c * b) (b * d)) := by
  unfold spec_l1Add.f
  have p1 := prod_e18 (a := a) (b := d) n1 (by omega)
  have p2 := prod_e18 (a := c) (b := b) n2 (by omega)
  have p3 := prod_pos d1 d2
  rw [w64 (x := a * d) (by omega) (by omega), w64 (x := c * b) (by omega) (by omega), w64 (x := b * d) (by omega) (by omega), w64 (by omega) (by omega)]
  exact Ev.bind (spec_l1Make_ev _ _ (by omega) (by omega) (by omega)) (Ev.now _)

theorem spec_AddFrac_ev (a b c d : Int) : Ev (fun k => spec_AddFrac.f k a b c d) (addF a b c d) := by
  unfold spec_AddFrac.f addF
  refine Ev.bind (spec_l1Both_ev a b c d) (Ev.ite (fun h => ?_) (fun h => ?_))
  · rw [if_pos h]
    obtain ⟨h1, h2⟩ := (bothGood_iff _ _ _ _).mp h
    obtain ⟨n1, d1, _⟩ := (goodFrac_iff _ _).mp h1
    obtain ⟨n2, d2, _⟩ := (goodFrac_iff _ _).mp h2
    exact Ev.bind (spec_l1Add_ev a b c d n1 d1 n2 d2) (Ev.bind (spec_l1Fits_ev _ _) (Ev.now _))
  · rw [if_neg h]; exact Ev.now _

def sumF : List (Int × Int) → Int × Int → Int × Int × Bool
  | [], s => (s.1, s.2, true)
  | x :: l, s => if (addF s.1 s.2 x.1 x.2).2.2 = true then sumF l ((addF s.1 s.2 x.1 x.2).1, (addF s.1 s.2 x.1 x.2).2.1) else (0, 0, false)

theorem impl_sumFracs_ev (l : List S35) (hl : l.length ≤ 1048576) : Ev (fun k => impl_sumFracs.f k l) (sumF (l.map fun x => (x.f0, x.f1)) (0, 1)) := by
  unfold impl_sumFracs.f
  have hr : ∀ (i : Nat) (h : i < l.length), rd_T35 l (i : Int) = l[i] := fun i h => by simp [rd_T35, h]
  have gen : ∀ (d i : Nat) (p q : Int), i + d = l.length → Ev (fun k => impl_sumFracs.l0 k l (l.length : Int) (i : Int) p q) (sumF ((l.drop i).map fun x => (x.f0, x.f1)) (p, q)) := by
    intro d
    induction d with
    | zero =>
      intro i p q hi
      refine Ev.succ ?_
      simp only [impl_sumFracs.l0]; rw [List.drop_of_length_le (by omega)]; exact Ev.neg (by omega) (Ev.now _)
    | succ d ih =>
      intro i p q hi
      have hi' : i < l.length := by omega
      refine Ev.succ ?_
      simp only [impl_sumFracs.l0]
      refine Ev.pos (lt_len hi') (Ev.pos (by omega) (Ev.pos (lt_len hi') ?_))
      rw [hr i hi', w64 (by omega) (by omega), List.drop_eq_getElem_cons hi', List.map_cons, sumF]
      refine Ev.bind (impl_AddFrac_ev _ _ _ _) (Ev.ite (fun h => ?_) (fun h => ?_))
      · rw [if_pos h]; exact ih (i + 1) _ _ (by omega)
      · rw [if_neg h]; exact Ev.now _
  have := gen l.length 0 0 1 (by omega)
  simpa using this

def sumsF (l : List (Int × Int)) : Int × Int × Bool := if l.length ≤ 50 then sumF l (0, 1) else (0, 0, false)

theorem spec_SumFracs_ev (l : List S35) (hl : l.length ≤ 1048576) : Ev (fun k => spec_SumFracs.f k l) (sumsF (l.map fun x => (x.f0, x.f1))) := by
  unfold spec_SumFracs.f sumsF
  rw [List.length_map]
  have hr : ∀ (i : Nat) (h : i < l.length), rd_T35 l (i : Int) = l[i] := fun i h => by simp [rd_T35, h]
  have gen : ∀ (d i : Nat) (p q : Int), i + d = l.length → Ev (fun k => spec_SumFracs.l0 k l (l.length : Int) (i : Int) p q) (sumF ((l.drop i).map fun x => (x.f0, x.f1)) (p, q)) := by
    intro d
    induction d with
    | zero =>
      intro i p q hi
      refine Ev.succ ?_
      simp only [spec_SumFracs.l0]; rw [List.drop_of_length_le (by omega)]; exact Ev.neg (by omega) (Ev.now _)
    | succ d ih =>
      intro i p q hi
      have hi' : i < l.length := by omega
      refine Ev.succ ?_
      simp only [spec_SumFracs.l0]
      refine Ev.pos (lt_len hi') (Ev.pos (by omega) (Ev.pos (lt_len hi') ?_))
      rw [hr i hi', w64 (by omega) (by omega), List.drop_eq_getElem_cons hi', List.map_cons, sumF]
      refine Ev.bind (spec_AddFrac_ev _ _ _ _) (Ev.ite (fun h => ?_) (fun h => ?_))
      · rw [if_pos h]; exact ih (i + 1) _ _ (by omega)
      · rw [if_neg h]; exact Ev.now _
  refine Ev.ite (fun h => ?_) (fun h => ?_)
  · rw [if_neg (by omega)]; exact Ev.now _
  · rw [if_pos (by omega)]
    have := gen l.length 0 0 1 (by omega)
    simpa using this

theorem fits_true {p : Int × Int} (h : (fits p).2.2 = true) : goodFrac p.1 p.2 = true ∧ fits p = (p.1, p.2, true) := by
  unfold fits at h ⊢
  split at h
  case isTrue hh => exact ⟨hh, by rw [if_pos hh]⟩
  case isFalse => simp at h
theorem addF_true {a b c d : Int} (h : (addF a b c d).2.2 = true) : bothGood a b c d = true ∧ goodFrac (addF a b c d).1 (addF a b c d).2.1 = true ∧ (addF a b c d) = (lowNum (a * d + c * b) (b * d), lowDen (a * d + c * b) (b * d), true) := by
  unfold addF at h ⊢
  split at h
  case isTrue hh =>
    obtain ⟨h1, h2⟩ := fits_true h
    rw [if_pos hh, h2]; exact ⟨hh, h1, rfl⟩
  case isFalse => simp at h

theorem w64n {i n : Nat} (h : i < n) (hn : n ≤ 4611686018427387904) : wrap64 ((i : Int) + 1) = ((i + 1 : Nat) : Int) := by rw [w64 (by omega) (by omega)]; rfl
theorem ev_indexFunc {α : Type} (l : List α) (rdx : Int → α) (hr : ∀ (i : Nat) (h : i < l.length), rdx (i : Int) = l[i]) (c : Nat → α → Option Bool) (p : α → Bool)
    (hc : ∀ x ∈ l, Ev (fun k => c k x) (p x)) (g : Nat → Int → Option Int)
    (hg : ∀ k i, g (k + 1) i = if i < (l.length : Int) then (if 0 ≤ i then (if i < (l.length : Int) then ((c k (rdx i)).bind fun t => if t = true then some i else g k (wrap64 (i + 1))) else none) else none) else some (-1))
    (hl : l.length ≤ 4611686018427387904) : ∃ j : Int, decide (j ≥ 0) = l.any p ∧ Ev (fun k => g k 0) j := by
  have gen : ∀ (d i : Nat), i + d = l.length → ∃ j : Int, decide (j ≥ 0) = (l.drop i).any p ∧ Ev (fun k => g k (i : Int)) j := by
    intro d
    induction d with
    | zero =>
      intro i hi
      refine ⟨-1, by rw [List.drop_of_length_le (by omega)]; rfl, Ev.step0 (Ev.of_eq fun _ => rfl) fun k => ?_⟩
      rw [hg, if_neg (by omega)]
    | succ d ih =>
      intro i hi
      have hi' : i < l.length := by omega
      have hd : (l.drop i).any p = (p l[i] || (l.drop (i + 1)).any p) := by rw [List.drop_eq_getElem_cons hi', List.any_cons]
      have hcx := hc l[i] (List.getElem_mem hi')
      cases hp : p l[i] with
      | true =>
        refine ⟨i, by rw [hd, hp]; simp, Ev.step (fun k => hg k _) (Ev.pos (by omega) (Ev.pos (by omega) (Ev.pos (by omega) ?_)))⟩
        rw [hr i hi']
        exact Ev.bind hcx (Ev.pos hp (Ev.now _))
      | false =>
        obtain ⟨j, hj, hev⟩ := ih (i + 1) (by omega)
        refine ⟨j, by rw [hd, hp, hj]; rfl, Ev.step (fun k => hg k _) (Ev.pos (by omega) (Ev.pos (by omega) (Ev.pos (by omega) ?_)))⟩
        rw [hr i hi', w64 (by omega) (by omega)]
        exact Ev.bind hcx (Ev.neg (by rw [hp]; simp) hev)
  have := gen l.length 0 (by omega)
  simpa using this
theorem any_not_all {α : Type} (l : List α) (p : α → Bool) : l.any (fun x => !p x) = !(l.all p) := by
  induction l with
  | nil => rfl
  | cons a l ih => simp [ih]
def wayOf (a b c d : Int) : Int := if a = c then ((b - d).natAbs : Int) else 3 * ((a - c).natAbs : Int) + (if 40 - (b + d) < b + d then 40 - (b + d) else b + d)
def spotOk (a b : Int) : Bool := (decide (0 ≤ a) && decide (a ≤ 9)) && (decide (0 ≤ b) && decide (b ≤ 20))

theorem laws_numberOf_ev (l : List Int) (hb : bytesOk l) (hl : l.length ≤ 1048576) : ∃ r, Ev (fun k => laws_numberOf.f k l) r ∧ 0 ≤ r ∧ r < 1000003 := by
  unfold laws_numberOf.f
  have gen : ∀ (d i : Nat) (x : Int), i + d = l.length → 0 ≤ x ∧ x < 1000003 → ∃ r, Ev (fun k => laws_numberOf.l0 k x l (l.length : Int) (i : Int)) r ∧ 0 ≤ r ∧ r < 1000003 := by
    intro d
    induction d with
    | zero =>
      intro i x hi hx
      refine ⟨x, Ev.succ ?_, hx⟩
      simp only [laws_numberOf.l0]; exact Ev.neg (by omega) (Ev.now _)
    | succ d ih =>
      intro i x hi hx
      have hi' : i < l.length := by omega
      have hbx := hb l[i] (List.getElem_mem hi')
      have h1 := Int.tmod_nonneg 1000003 (show 0 ≤ 31 * x + l[i] by omega)
      have h2 := Int.tmod_lt_of_pos (31 * x + l[i]) (show (0 : Int) < 1000003 by omega)
      obtain ⟨r, hr, hb2⟩ := ih (i + 1) (Int.tmod (31 * x + l[i]) 1000003) (by omega) ⟨h1, h2⟩
      refine ⟨r, Ev.succ ?_, hb2⟩
      simp only [laws_numberOf.l0]
      refine Ev.pos (by omega) (Ev.pos (by omega) (Ev.pos (by omega) ?_))
      rw [rd_nat l i hi', w64n hi' (by omega), w64 (x := 31 * x) (by omega) (by omega), w64 (x := l[i]) (by omega) (by omega), w64 (by omega) (by omega)]
      exact hr
  simpa using gen l.length 0 0 (by omega) (by omega)

theorem laws_sameInts_ev (a b : List Int) (hl : a.length ≤ 4611686018427387904) : Ev (fun k => laws_sameInts.f k a b) (decide (a = b)) := by
  unfold laws_sameInts.f
  refine Ev.ite (fun h => ?_) (fun h => ?_)
  · have hlen : a.length = b.length := by omega
    have gen : ∀ (d i : Nat), i + d = a.length → Ev (fun k => laws_sameInts.l0 k a b (a.length : Int) (i : Int)) (decide (a.drop i = b.drop i)) := by
      intro d
      induction d with
      | zero =>
        intro i hi
        rw [List.drop_of_length_le (by omega), List.drop_of_length_le (by omega)]
        refine Ev.succ ?_
        simp only [laws_sameInts.l0]; exact Ev.neg (by omega) (by simpa using Ev.now true)
      | succ d ih =>
        intro i hi
        have hi' : i < a.length := by omega
        have hi2 : i < b.length := by omega
        rw [List.drop_eq_getElem_cons hi', List.drop_eq_getElem_cons hi2]
        refine Ev.succ ?_
        simp only [laws_sameInts.l0]
        refine Ev.pos (by omega) (Ev.pos (by omega) (Ev.pos (by omega) (Ev.pos (by omega) ?_)))
        rw [rd_nat a i hi', rd_nat b i hi2, w64n hi' (by omega)]
        refine Ev.ite (fun h => ?_) (fun h => ?_)
        · have e : decide (a[i] :: a.drop (i + 1) = b[i] :: b.drop (i + 1)) = decide (a.drop (i + 1) = b.drop (i + 1)) := by
            rw [decide_eq_decide, h]; exact ⟨fun h => (List.cons.inj h).2, fun h => by rw [h]⟩
          rw [e]; exact ih (i + 1) (by omega)
        · have e : decide (a[i] :: a.drop (i + 1) = b[i] :: b.drop (i + 1)) = false := by
            rw [decide_eq_false_iff_not]; intro h2; injection h2 with h3; exact h h3
          rw [e]; exact Ev.now _
    simpa using gen a.length 0 (by omega)
  · have e : decide (a = b) = false := by rw [decide_eq_false_iff_not]; rintro rfl; exact h rfl
    rw [e]; exact Ev.now _

theorem low_eq {a b c d : Int} (hb : 0 < b) (hd : 0 < d) (h : a * d = c * b) : lowNum a b = lowNum c d ∧ lowDen a b = lowDen c d := by
  have x1 := low_cross a b hb
  have x2 := low_cross c d hd
  have p1 := (low_den_pos a b hb).1
  have p2 := (low_den_pos c d hd).1
  have g1 := low_gcd a b hb
  have g2 := low_gcd c d hd
  have hx : lowNum a b * lowDen c d = lowNum c d * lowDen a b := by
    have e : (lowNum a b * lowDen c d) * (b * d) = (lowNum c d * lowDen a b) * (b * d) := by
      calc (lowNum a b * lowDen c d) * (b * d) = (lowNum a b * b) * (d * lowDen c d) := by rw [Int.mul_assoc, Int.mul_assoc]; congr 1; rw [Int.mul_left_comm, Int.mul_comm (lowDen c d) d]
        _ = (a * lowDen a b) * (d * lowDen c d) := by rw [x1]
        _ = (a * d) * (lowDen a b * lowDen c d) := by rw [Int.mul_assoc, Int.mul_assoc]; congr 1; rw [Int.mul_left_comm]
        _ = (c * b) * (lowDen a b * lowDen c d) := by rw [h]
        _ = (c * lowDen c d) * (lowDen a b * b) := by rw [Int.mul_assoc, Int.mul_assoc]; congr 1; rw [Int.mul_comm (lowDen a b), Int.mul_left_comm, Int.mul_comm b]
        _ = (lowNum c d * d) * (lowDen a b * b) := by rw [x2]
        _ = (lowNum c d * lowDen a b) * (b * d) := by rw [Int.mul_assoc, Int.mul_assoc]; congr 1; rw [Int.mul_left_comm, Int.mul_comm d b]
    exact Int.eq_of_mul_eq_mul_right (Int.ne_of_gt (Int.mul_pos hb hd)) e
  generalize lowNum a b = p at *
  generalize lowDen a b = q at *
  generalize lowNum c d = p2' at *
  generalize lowDen c d = q2' at *
  have hn : p.natAbs * q2'.natAbs = p2'.natAbs * q.natAbs := by rw [← Int.natAbs_mul, ← Int.natAbs_mul, hx]
  have c1 : Nat.Coprime q.natAbs p.natAbs := by rw [Nat.coprime_comm]; exact g1
  have c2 : Nat.Coprime q2'.natAbs p2'.natAbs := by rw [Nat.coprime_comm]; exact g2
  have v1 : q.natAbs ∣ q2'.natAbs := c1.dvd_of_dvd_mul_left (by rw [hn]; exact Nat.dvd_mul_left _ _)
  have v2 : q2'.natAbs ∣ q.natAbs := c2.dvd_of_dvd_mul_left (by rw [← hn]; exact Nat.dvd_mul_left _ _)
  have hbd : q = q2' := by have := Nat.dvd_antisymm v1 v2; omega
  subst hbd
  exact ⟨Int.eq_of_mul_eq_mul_right (by omega) hx, rfl⟩

def isqUp (n : Int) : Nat → Int
  | 0 => 0
  | k + 1 => if ((k : Int) + 1) * ((k : Int) + 1) ≤ n then (k : Int) + 1 else isqUp n k
def isq (n : Int) : Int := isqUp n n.toNat
theorem sq_le_sq {a b : Int} (h0 : 0 ≤ a) (h : a ≤ b) : a * a ≤ b * b := Int.mul_le_mul h h h0 (by omega)
theorem lt_of_sq {a b : Int} (hb : 0 ≤ b) (h : a * a < b * b) : a < b := by
  rcases Int.lt_or_le a b with h1 | h1
  · exact h1
  · have := sq_le_sq hb h1; omega
theorem sq_lt_sq {a b : Int} (h0 : 0 ≤ a) (h : a < b) : a * a < b * b := by
  have h1 : a * a ≤ a * b := Int.mul_le_mul_of_nonneg_left (by omega) h0
  have h2 : a * b < b * b := Int.mul_lt_mul_of_pos_right h (by omega)
  omega
theorem le_of_sq {a b : Int} (hb : 0 ≤ b) (h : a * a ≤ b * b) : a ≤ b := by
  rcases Int.lt_or_le b a with h1 | h1
  · have := sq_lt_sq hb h1; omega
  · exact h1
theorem isq_spec {n : Int} (hn : 0 ≤ n) : 0 ≤ isq n ∧ isq n * isq n ≤ n ∧ n < (isq n + 1) * (isq n + 1) := by
  have gen : ∀ k : Nat, n < ((k : Int) + 1) * ((k : Int) + 1) → 0 ≤ isqUp n k ∧ isqUp n k * isqUp n k ≤ n ∧ n < (isqUp n k + 1) * (isqUp n k + 1) := by
    intro k
    induction k with
    | zero => intro h; unfold isqUp; exact ⟨by omega, by omega, by simpa using h⟩
    | succ k ih =>
      intro h
      unfold isqUp
      split
      · rename_i hk; exact ⟨by omega, hk, by simpa using h⟩
      · rename_i hk; exact ih (by omega)
  refine gen n.toNat ?_
  have h1 : ((n.toNat : Nat) : Int) = n := by omega
  rw [h1]
  have := Int.mul_le_mul (show (1 : Int) ≤ n + 1 by omega) (Int.le_refl (n + 1)) (show 0 ≤ n + 1 by omega) (show 0 ≤ n + 1 by omega)
  omega
theorem le_isq {n m : Int} (hn : 0 ≤ n) (hm : 0 ≤ m) : m * m ≤ n ↔ m ≤ isq n := by
  obtain ⟨h0, h1, h2⟩ := isq_spec hn
  constructor
  · intro h
    have : m < isq n + 1 := lt_of_sq (by omega) (by omega)
    omega
  · intro h
    have := sq_le_sq hm h; omega
theorem isq_le {n m : Int} (hn : 0 ≤ n) (hm : 0 ≤ m) (h : n < (m + 1) * (m + 1)) : isq n ≤ m := by
  obtain ⟨h0, h1, h2⟩ := isq_spec hn
  have : isq n < m + 1 := lt_of_sq (by omega) (by omega)
  omega
theorem isq_million {n : Int} (hn : 0 ≤ n ∧ n ≤ 1000000000000) : isq n ≤ 1000000 := isq_le hn.1 (by omega) (by omega)

theorem impl_root_ev {n : Int} (hn : 0 ≤ n ∧ n ≤ 1000000000000) : Ev (fun k => impl_root.f k n) (isq n) := by
  unfold impl_root.f
  have key : ∀ (d : Nat) (lo hi : Int), (hi - lo).toNat ≤ d → 0 ≤ lo ∧ lo ≤ isq n ∧ isq n ≤ hi ∧ hi ≤ 1000000 → Ev (fun k => impl_root.l0 k n lo hi) (isq n) := by
    intro d
    induction d with
    | zero =>
      intro lo hi hd h
      refine Ev.succ ?_
      simp only [impl_root.l0]
      refine Ev.neg (by omega) ?_
      rw [show lo = isq n by omega]; exact Ev.now _
    | succ d ih =>
      intro lo hi hd h
      refine Ev.succ ?_
      simp only [impl_root.l0]
      refine Ev.ite (fun hlt => ?_) (fun hlt => by rw [show lo = isq n by omega]; exact Ev.now _)
      rw [w64 (x := lo + hi) (by omega) (by omega), w64 (x := lo + hi + 1) (by omega) (by omega), Int.tdiv_eq_ediv_of_nonneg (by omega), w64 (x := (lo + hi + 1) / 2) (by omega) (by omega)]
      have hm := mul_small (a := (lo + hi + 1) / 2) (b := (lo + hi + 1) / 2) (m := 1000000) (n := 1000000) (by omega) (by omega)
      rw [w64 (x := (lo + hi + 1) / 2 * _) (by omega) (by omega), w64 (x := (lo + hi + 1) / 2 - 1) (by omega) (by omega)]
      have hle := le_isq hn.1 (show 0 ≤ (lo + hi + 1) / 2 by omega)
      refine Ev.ite (fun hc => ih _ _ (by omega) ?_) (fun hc => ih _ _ (by omega) ?_)
      · have := hle.mp hc; omega
      · have : ¬ (lo + hi + 1) / 2 ≤ isq n := fun h2 => hc (hle.mpr h2)
        omega
  exact key 1000000 0 1000000 (by omega) ⟨by omega, (isq_spec hn.1).1, isq_million hn, by omega⟩

theorem spec_l2Root_ev {n : Int} (hn : 0 ≤ n ∧ n ≤ 1000000000000) : Ev (fun k => spec_l2Root.f k n) (isq n) := by
  unfold spec_l2Root.f
  have key : ∀ (d : Nat) (lo hi : Int), (hi - lo).toNat ≤ d → 0 ≤ lo ∧ lo ≤ isq n ∧ isq n < hi ∧ hi ≤ 1000001 → Ev (fun k => spec_l2Root.l0 k n lo hi) (isq n) := by
    intro d
    induction d with
    | zero => intro lo hi hd h; omega
    | succ d ih =>
      intro lo hi hd h
      refine Ev.succ ?_
      simp only [spec_l2Root.l0]
      rw [w64 (x := hi - lo) (by omega) (by omega)]
      refine Ev.ite (fun hlt => ?_) (fun hlt => by rw [show lo = isq n by omega]; exact Ev.now _)
      rw [w64 (x := lo + hi) (by omega) (by omega), Int.tdiv_eq_ediv_of_nonneg (by omega), w64 (x := (lo + hi) / 2) (by omega) (by omega)]
      have hm := mul_small (a := (lo + hi) / 2) (b := (lo + hi) / 2) (m := 1000001) (n := 1000001) (by omega) (by omega)
      rw [w64 (x := (lo + hi) / 2 * _) (by omega) (by omega)]
      have hle := le_isq hn.1 (show 0 ≤ (lo + hi) / 2 by omega)
      refine Ev.ite (fun hc => ih _ _ (by omega) ?_) (fun hc => ih _ _ (by omega) ?_)
      · have := hle.mp hc; omega
      · have : ¬ (lo + hi) / 2 ≤ isq n := fun h2 => hc (hle.mpr h2)
        omega
  have := isq_million hn
  exact key 1000001 0 1000001 (by omega) ⟨by omega, (isq_spec hn.1).1, by omega, by omega⟩

def goodB (a b c d : Int) : Bool := bothGood a b c d && (decide (0 ≤ a) && !decide (c * b < a * d))

theorem impl_GoodBounds_ev (a b c d : Int) : Ev (fun k => impl_GoodBounds.f k a b c d) (goodB a b c d) := by
  unfold impl_GoodBounds.f goodB
  refine Ev.bind (impl_two_ev a b c d) (Ev.ite (fun h => ?_) (fun h => by rw [Bool.eq_false_iff.mpr h]; exact Ev.now _))
  rw [h]
  obtain ⟨h1, h2⟩ := (bothGood_iff _ _ _ _).mp h
  obtain ⟨n1, d1, _⟩ := (goodFrac_iff _ _).mp h1
  obtain ⟨n2, d2, _⟩ := (goodFrac_iff _ _).mp h2
  have p1 := prod_e18 (a := a) (b := d) n1 (by omega)
  have p2 := prod_e18 (a := c) (b := b) n2 (by omega)
  refine Ev.ite (fun h3 => ?_) (fun h3 => by rw [decide_eq_false (by omega)]; exact Ev.now _)
  refine Ev.bind0 (impl_compareFracs_eq a b c d (by omega) (by omega)) (Ev.to (Ev.now _) ?_)
  rw [decide_eq_true (show 0 ≤ a from h3)]
  by_cases h4 : a * d < c * b
  · rw [if_pos h4, decide_eq_false (show ¬ c * b < a * d by omega)]; rfl
  · rw [if_neg h4]
    by_cases h5 : c * b < a * d
    · rw [if_pos h5, decide_eq_true h5]; rfl
    · rw [if_neg h5, decide_eq_false h5]; rfl

def withinB (x y a b c d : Int) : Bool × Bool := if goodFrac x y = true ∧ goodB a b c d = true then (!decide (x * b < a * y) && !decide (c * y < x * d), true) else (false, false)

def rootB (n p : Int) : Int × Int × Int × Int × Bool :=
  if (0 ≤ n ∧ n ≤ 1000000000000) ∧ (1 ≤ p ∧ p ≤ 1000) ∧ n ≤ 1000000000000 / (p * p) then
    (lowNum (isq (n * p * p)) p, lowDen (isq (n * p * p)) p, lowNum (if isq (n * p * p) * isq (n * p * p) = n * p * p then isq (n * p * p) else isq (n * p * p) + 1) p, lowDen (if isq (n * p * p) * isq (n * p * p) = n * p * p then isq (n * p * p) else isq (n * p * p) + 1) p, true)
  else (0, 0, 0, 0, false)
theorem root_prod {n p : Int} (hn : 0 ≤ n) (hp : 1 ≤ p ∧ p ≤ 1000) (h : n ≤ 1000000000000 / (p * p)) : 0 ≤ n * p * p ∧ n * p * p ≤ 1000000000000 ∧ 1 ≤ p * p ∧ p * p ≤ 1000000 := by
  have h1 := mul_small (a := p) (b := p) (m := 1000) (n := 1000) (by omega) (by omega)
  have h2 : 0 < p * p := Int.mul_pos (by omega) (by omega)
  have h3 : n * p * p = n * (p * p) := Int.mul_assoc _ _ _
  have h4 : n * (p * p) ≤ 1000000000000 / (p * p) * (p * p) := Int.mul_le_mul_of_nonneg_right h (by omega)
  have h5 : 1000000000000 / (p * p) * (p * p) ≤ 1000000000000 := Int.ediv_mul_le _ (by omega)
  have h6 : 0 ≤ n * (p * p) := Int.mul_nonneg hn (by omega)
  rw [h3]; omega

theorem impl_isSquared_eq (n : Int) : impl_isSquared.f n = some (decide (0 ≤ n) && decide (n ≤ 1000000000000)) := by unfold impl_isSquared.f; rw [impl_within_eq]; rfl
theorem impl_RootBounds_ev (n p : Int) : Ev (fun k => impl_RootBounds.f k n p) (rootB n p) := by
  unfold impl_RootBounds.f rootB
  have no : ∀ x : Bool, x = true → Ev (fun k => impl_RootBounds.j0 k n p x) (0, 0, 0, 0, false) := fun x hx => by
    refine Ev.succ ?_; simp only [impl_RootBounds.j0]; exact Ev.pos hx (Ev.now _)
  refine Ev.bind0 (impl_isSquared_eq n) (Ev.ite (fun h1 => Ev.bind0 (impl_within_eq _ _ _) (Ev.ite (fun h2 => ?_) (fun h2 => ?_))) (fun h1 => ?_))
  · have h1' : 0 ≤ n ∧ n ≤ 1000000000000 := by simpa using h1
    have h2' : 1 ≤ p ∧ p ≤ 1000 := by simpa using h2
    have hp := mul_small (a := p) (b := p) (m := 1000) (n := 1000) (by omega) (by omega)
    have hp2 : 0 < p * p := Int.mul_pos (by omega) (by omega)
    have hd : 0 ≤ 1000000000000 / (p * p) ∧ 1000000000000 / (p * p) ≤ 1000000000000 := ⟨Int.ediv_nonneg (by omega) (by omega), Int.ediv_le_self _ (by omega)⟩
    rw [w64 (x := p * p) (by omega) (by omega), w64 (x := 1000000000000 / (p * p)) (by omega) (by omega)]
    refine Ev.neg (by omega) ?_
    by_cases h3 : n ≤ 1000000000000 / (p * p)
    · rw [if_pos ⟨h1', h2', h3⟩]
      obtain ⟨b1, b2, b3, b4⟩ := root_prod h1'.1 h2' h3
      have b5 : 0 ≤ n * p ∧ n * p ≤ n * p * p := ⟨Int.mul_nonneg h1'.1 (by omega), by
        have := Int.mul_le_mul_of_nonneg_left (show 1 ≤ p by omega) (Int.mul_nonneg h1'.1 (show 0 ≤ p by omega)); omega⟩
      have r0 := isq_spec b1
      have r1 := isq_million ⟨b1, b2⟩
      refine Ev.succ ?_
      simp only [impl_RootBounds.j0]
      refine Ev.neg (by simp; omega) ?_
      rw [w64 (x := n * p) (by omega) (by omega), w64 (x := n * p * p) (by omega) (by omega)]
      refine Ev.bind (impl_root_ev ⟨b1, b2⟩) ?_
      rw [w64 (x := isq (n * p * p) * _) (by have := mul_small (a := isq (n * p * p)) (b := isq (n * p * p)) (m := 1000000) (n := 1000000) (by omega) (by omega); omega) (by have := mul_small (a := isq (n * p * p)) (b := isq (n * p * p)) (m := 1000000) (n := 1000000) (by omega) (by omega); omega)]
      rw [w64 (x := isq (n * p * p) + 1) (by omega) (by omega)]
      have tail : ∀ s, 0 ≤ s ∧ s ≤ 1000001 → Ev (fun k => impl_RootBounds.j1 k p (isq (n * p * p)) s) (lowNum (isq (n * p * p)) p, lowDen (isq (n * p * p)) p, lowNum s p, lowDen s p, true) := fun s hs => by
        refine Ev.succ ?_
        simp only [impl_RootBounds.j1]
        have g1 : fits (lowNum (isq (n * p * p)) p, lowDen (isq (n * p * p)) p) = (lowNum (isq (n * p * p)) p, lowDen (isq (n * p * p)) p, true) := by
          unfold fits; rw [if_pos (low_good _ _ (by omega) (by omega))]
        have g2 : fits (lowNum s p, lowDen s p) = (lowNum s p, lowDen s p, true) := by
          unfold fits; rw [if_pos (low_good _ _ (by omega) (by omega))]
        refine Ev.bind (Ev.to (impl_lowest_fits _ _ (by omega) (by omega) (by omega)) g1) (Ev.bind (Ev.to (impl_lowest_fits _ _ (by omega) (by omega) (by omega)) g2) (Ev.pos rfl (Ev.pos rfl (Ev.now _))))
      refine Ev.ite (fun h4 => ?_) (fun h4 => ?_)
      · rw [if_pos h4]; exact tail _ (by omega)
      · rw [if_neg h4]; exact tail _ (by omega)
    · rw [if_neg (fun h => h3 h.2.2)]; exact no _ (by simp; omega)
  · rw [if_neg (fun h => h2 (by simpa using h.2.1))]; exact no _ rfl
  · rw [if_neg (fun h => h1 (by simpa using h.1))]; exact no _ rfl

def losOf (l : List S44) : List (Int × Int) := l.map fun b => (b.f0.f0, b.f0.f1)
def hisOf (l : List S44) : List (Int × Int) := l.map fun b => (b.f1.f0, b.f1.f1)
def sumB (l : List S44) : Int × Int × Int × Int × Bool :=
  if l.length ≤ 20 ∧ (l.all fun b => goodB b.f0.f0 b.f0.f1 b.f1.f0 b.f1.f1) = true ∧ (sumF (losOf l) (0, 1)).2.2 = true ∧ (sumF (hisOf l) (0, 1)).2.2 = true then
    ((sumF (losOf l) (0, 1)).1, (sumF (losOf l) (0, 1)).2.1, (sumF (hisOf l) (0, 1)).1, (sumF (hisOf l) (0, 1)).2.1, true)
  else (0, 0, 0, 0, false)
theorem rd_bounds (l : List S44) (i : Nat) (h : i < l.length) : rd_T44 l (i : Int) = l[i] := by simp [rd_T44, h]

theorem impl_SumBounds_ev (l : List S44) (hl : l.length ≤ 1048576) : Ev (fun k => impl_SumBounds.f k l) (sumB l) := by
  unfold impl_SumBounds.f sumB
  have no : ∀ x : Bool, x = true → Ev (fun k => impl_SumBounds.j0 k l x) (0, 0, 0, 0, false) := fun x hx => by
    refine Ev.succ ?_; simp only [impl_SumBounds.j0]; exact Ev.pos hx (Ev.now _)
  refine Ev.ite (fun h1 => by rw [if_neg (fun h => by omega)]; exact no _ rfl) (fun h1 => ?_)
  unfold sl0_ContainsFunc.f sl3_IndexFunc.f
  obtain ⟨j, hj, hev⟩ := ev_indexFunc l (rd_T44 l) (rd_bounds l) (fun k x => impl_SumBounds_1.f k x.f0.f0 x.f0.f1 x.f1.f0 x.f1.f1) (fun b => !goodB b.f0.f0 b.f0.f1 b.f1.f0 b.f1.f1)
    (fun x _ => by unfold impl_SumBounds_1.f; exact Ev.bind (impl_GoodBounds_ev _ _ _ _) (Ev.now _))
    (fun k i => sl3_IndexFunc.l0 k l (l.length : Int) i) (fun k i => by simp only [sl3_IndexFunc.l0]) (by omega)
  rw [any_not_all l (fun b => goodB b.f0.f0 b.f0.f1 b.f1.f0 b.f1.f1)] at hj
  refine Ev.bind (Ev.bind hev (Ev.now _)) ?_
  rw [hj]
  by_cases hg : (l.all fun b => goodB b.f0.f0 b.f0.f1 b.f1.f0 b.f1.f1) = true
  · rw [hg]
    refine Ev.succ ?_
    simp only [impl_SumBounds.j0]
    refine Ev.neg (by simp) ?_
    refine ev_up l.length (fun k i => impl_SumBounds.l0 k ((l.take i).map (·.f0)) ((l.take i).map (·.f1)) l (l.length : Int) (i : Int)) _ (fun _ => True) trivial ?_ ?_
    · intro _
      refine Ev.succ ?_
      simp only [impl_SumBounds.l0]
      refine Ev.neg (by omega) ?_
      rw [List.take_length]
      have e1 := impl_sumFracs_ev (l.map (·.f0)) (by simpa using hl)
      have e2 := impl_sumFracs_ev (l.map (·.f1)) (by simpa using hl)
      have q1 : (l.map (·.f0)).map (fun x => (x.f0, x.f1)) = losOf l := by rw [List.map_map]; rfl
      have q2 : (l.map (·.f1)).map (fun x => (x.f0, x.f1)) = hisOf l := by rw [List.map_map]; rfl
      rw [q1] at e1; rw [q2] at e2
      refine Ev.bind e1 (Ev.bind e2 (Ev.ite (fun a1 => Ev.ite (fun a2 => ?_) (fun a2 => ?_)) (fun a1 => ?_)))
      · rw [if_pos ⟨by omega, trivial, a1, a2⟩]; exact Ev.now _
      · rw [if_neg (fun h => a2 h.2.2.2)]; exact Ev.now _
      · rw [if_neg (fun h => a1 h.2.2.1)]; exact Ev.now _
    · intro i hi _ hnx
      have hnx := hnx trivial
      refine Ev.succ ?_
      simp only [impl_SumBounds.l0]
      refine Ev.pos (by omega) (Ev.pos (by omega) (Ev.pos (by omega) (Ev.bind0 rfl (Ev.pos (by simp; omega) (Ev.bind0 rfl (Ev.pos (by simp; omega) ?_))))))
      rw [rd_bounds l i hi, w64n hi (by omega)]
      rw [List.take_succ_eq_append_getElem hi, List.map_append, List.map_append] at hnx
      exact hnx
  · rw [Bool.eq_false_iff.mpr hg, if_neg (fun h => by simp at h)]; exact no _ rfl

theorem low_lt_iff {a b c d : Int} (hb : 0 < b) (hd : 0 < d) : lowNum a b * lowDen c d < lowNum c d * lowDen a b ↔ a * d < c * b := by
  have x1 := low_cross a b hb
  have x2 := low_cross c d hd
  have p1 := (low_den_pos a b hb).1
  have p2 := (low_den_pos c d hd).1
  generalize lowNum a b = p at *
  generalize lowDen a b = q at *
  generalize lowNum c d = r at *
  generalize lowDen c d = s at *
  have hbd : 0 < b * d := Int.mul_pos hb hd
  have hqs : 0 < q * s := Int.mul_pos (by omega) (by omega)
  have e1 : p * s * (b * d) = a * d * (q * s) := by
    calc p * s * (b * d) = (p * b) * (s * d) := by rw [Int.mul_assoc, Int.mul_assoc, Int.mul_left_comm s b d]
      _ = (a * q) * (s * d) := by rw [x1]
      _ = a * d * (q * s) := by rw [Int.mul_assoc, Int.mul_assoc, Int.mul_comm s d, Int.mul_left_comm q d s]
  have e2 : r * q * (b * d) = c * b * (q * s) := by
    calc r * q * (b * d) = (r * d) * (q * b) := by rw [Int.mul_comm b d, Int.mul_assoc, Int.mul_assoc, Int.mul_left_comm q d b]
      _ = (c * s) * (q * b) := by rw [x2]
      _ = c * b * (q * s) := by rw [Int.mul_assoc, Int.mul_assoc, Int.mul_comm q b, Int.mul_left_comm s b q, Int.mul_comm s q]
  constructor
  · intro h
    have h2 : p * s * (b * d) < r * q * (b * d) := Int.mul_lt_mul_of_pos_right h hbd
    rw [e1, e2] at h2
    exact Int.lt_of_mul_lt_mul_right h2 (by omega)
  · intro h
    have h2 : a * d * (q * s) < c * b * (q * s) := Int.mul_lt_mul_of_pos_right h hqs
    rw [← e1, ← e2] at h2
    exact Int.lt_of_mul_lt_mul_right h2 (by omega)
theorem low_nonneg {a b : Int} (hb : 0 < b) (ha : 0 ≤ a) : 0 ≤ lowNum a b := by
  have h := low_cross a b hb
  have hd := (low_den_pos a b hb).1
  rcases Int.lt_or_le (lowNum a b) 0 with h1 | h1
  · have h2 : lowNum a b * b < 0 := Int.mul_neg_of_neg_of_pos h1 hb
    have h3 := Int.mul_nonneg ha (show 0 ≤ lowDen a b by omega)
    omega
  · exact h1
theorem low_zero {p : Int} (hp : 0 < p) : lowNum 0 p = 0 ∧ lowDen 0 p = 1 := by
  have h := low_eq (a := 0) (b := p) (c := 0) (d := 1) hp (by omega) (by omega)
  have h1 : lowNum 0 1 = 0 := by decide
  have h2 : lowDen 0 1 = 1 := by decide
  rw [h1, h2] at h; exact h

theorem add_low {a b p : Int} (hp : 1 ≤ p ∧ p ≤ 1000000000) (ha : -1000000000 ≤ a ∧ a ≤ 1000000000) (hb : -1000000000 ≤ b ∧ b ≤ 1000000000) (hab : -1000000000 ≤ a + b ∧ a + b ≤ 1000000000) :
    addF (lowNum a p) (lowDen a p) (lowNum b p) (lowDen b p) = (lowNum (a + b) p, lowDen (a + b) p, true) := by
  have x1 := low_cross a p (by omega)
  have x2 := low_cross b p (by omega)
  have d1 := (low_den_pos a p (by omega)).1
  have d2 := (low_den_pos b p (by omega)).1
  unfold addF
  rw [if_pos ((bothGood_iff _ _ _ _).mpr ⟨low_good a p ha hp, low_good b p hb hp⟩)]
  have e := low_eq (a := lowNum a p * lowDen b p + lowNum b p * lowDen a p) (b := lowDen a p * lowDen b p) (c := a + b) (d := p) (Int.mul_pos (by omega) (by omega)) (by omega) (by
    rw [Int.add_mul, Int.add_mul]
    congr 1
    · rw [Int.mul_right_comm, x1, Int.mul_assoc]
    · rw [Int.mul_right_comm, x2, Int.mul_assoc, Int.mul_comm (lowDen b p)])
  rw [e.1, e.2]
  unfold fits
  rw [if_pos (low_good _ _ hab hp)]
theorem sumF_low (g : Int → Int) (p m : Int) (hp : 1 ≤ p ∧ p ≤ 1000000000) (hm : 0 ≤ m ∧ m ≤ 100000) : ∀ (l : List Int) (a : Int), (∀ x ∈ l, 0 ≤ g x ∧ g x ≤ m) → 0 ≤ a → a + m * l.length ≤ 1000000000 →
    sumF (l.map fun f => (lowNum (g f) p, lowDen (g f) p)) (lowNum a p, lowDen a p) = (lowNum (a + (l.map g).sum) p, lowDen (a + (l.map g).sum) p, true) := by
  intro l
  induction l with
  | nil => intro a _ _ _; simp [sumF]
  | cons x l ih =>
    intro a hx h0 hb
    have h1 := hx x (by simp)
    have hb' : a + (m * l.length + m) ≤ 1000000000 := by
      have e : m * ((x :: l).length : Int) = m * l.length + m := by rw [List.length_cons]; push_cast; rw [Int.mul_add]; simp
      rw [e] at hb; exact hb
    have hml : 0 ≤ m * (l.length : Int) := Int.mul_nonneg hm.1 (by omega)
    rw [List.map_cons, sumF, add_low hp (by omega) (by omega) (by omega), if_pos rfl]
    dsimp only
    rw [ih (a + g x) (fun y hy => hx y (by simp [hy])) (by omega) (by omega), List.map_cons, List.sum_cons, ← Int.add_assoc]

def csq (n : Int) : Int := if isq n * isq n = n then isq n else isq n + 1
theorem csq_spec {n : Int} (hn : 0 ≤ n) : isq n ≤ csq n ∧ csq n ≤ isq n + 1 ∧ n ≤ csq n * csq n := by
  obtain ⟨h0, h1, h2⟩ := isq_spec hn
  unfold csq
  split
  · omega
  · omega
theorem csq_le {n m : Int} (hn : 0 ≤ n) (hm : 0 ≤ m) (h : n ≤ m * m) : csq n ≤ m := by
  obtain ⟨h0, h1, h2⟩ := isq_spec hn
  unfold csq
  split
  · rename_i he; exact le_of_sq hm (by omega)
  · rename_i he
    have : isq n < m := lt_of_sq hm (by omega)
    omega
theorem flow_prod {f p : Int} (hf : 1 ≤ f ∧ f ≤ 30) (hp : 1 ≤ p ∧ p ≤ 100) : 0 ≤ f * p * p ∧ f * p * p ≤ 300000 := by
  have h1 := mul_small (a := f) (b := p) (m := 30) (n := 100) (by omega) (by omega)
  have h2 := mul_small (a := f * p) (b := p) (m := 3000) (n := 100) (by omega) (by omega)
  omega
theorem flow_isq {f p : Int} (hf : 1 ≤ f ∧ f ≤ 30) (hp : 1 ≤ p ∧ p ≤ 100) : 0 ≤ isq (f * p * p) ∧ isq (f * p * p) ≤ csq (f * p * p) ∧ csq (f * p * p) ≤ 1000 := by
  have h := flow_prod hf hp
  have h1 := isq_spec h.1
  have h2 := csq_spec h.1
  have h3 := csq_le h.1 (m := 1000) (by omega) (by omega)
  omega
def rootsL (flow : List Int) (p : Int) : Int := (flow.map fun f => isq (f * p * p)).sum
def rootsH (flow : List Int) (p : Int) : Int := (flow.map fun f => csq (f * p * p)).sum
def leastB (flow : List Int) (room p : Int) : Int × Int × Int × Int × Bool :=
  if flowOk flow = true ∧ (8 ≤ room ∧ room ≤ 1000) ∧ (1 ≤ p ∧ p ≤ 100) then
    (lowNum (rootsL flow p * rootsL flow p) (p * p * room), lowDen (rootsL flow p * rootsL flow p) (p * p * room), lowNum (rootsH flow p * rootsH flow p) (p * p * room), lowDen (rootsH flow p * rootsH flow p) (p * p * room), true)
  else (0, 0, 0, 0, false)
def bndOf (p f : Int) : S44 := ⟨⟨lowNum (isq (f * p * p)) p, lowDen (isq (f * p * p)) p⟩, ⟨lowNum (csq (f * p * p)) p, lowDen (csq (f * p * p)) p⟩⟩
theorem rootB_flow {f p : Int} (hf : 1 ≤ f ∧ f ≤ 30) (hp : 1 ≤ p ∧ p ≤ 100) : rootB f p = ((bndOf p f).f0.f0, (bndOf p f).f0.f1, (bndOf p f).f1.f0, (bndOf p f).f1.f1, true) := by
  unfold rootB
  have hpp := mul_small (a := p) (b := p) (m := 100) (n := 100) (by omega) (by omega)
  have hpp2 : 0 < p * p := Int.mul_pos (by omega) (by omega)
  have : f ≤ 1000000000000 / (p * p) := by
    rw [Int.le_ediv_iff_mul_le hpp2]
    have := mul_small (a := f) (b := p * p) (m := 30) (n := 10000) (by omega) (by omega)
    omega
  rw [if_pos ⟨by omega, by omega, this⟩]; rfl
theorem mono_sum (l : List Int) (g h : Int → Int) (hx : ∀ x ∈ l, g x ≤ h x) : (l.map g).sum ≤ (l.map h).sum := by
  induction l with
  | nil => simp
  | cons a l ih =>
    have h1 := hx a (by simp)
    have h2 := ih fun x h => hx x (by simp [h])
    simp only [List.map_cons, List.sum_cons]; omega
theorem map_sum_bounds (l : List Int) (g : Int → Int) (lo hi : Int) (hx : ∀ x ∈ l, lo ≤ g x ∧ g x ≤ hi) : lo * l.length ≤ (l.map g).sum ∧ (l.map g).sum ≤ hi * l.length := by
  have := sum_bounds (l.map g) lo hi (fun x h => by obtain ⟨y, hy, rfl⟩ := List.mem_map.mp h; exact hx y hy)
  rwa [List.length_map] at this
theorem roots_bounds {flow : List Int} {p : Int} (hf : flowOk flow = true) (hp : 1 ≤ p ∧ p ≤ 100) : 0 ≤ rootsL flow p ∧ rootsL flow p ≤ rootsH flow p ∧ rootsH flow p ≤ 8000 := by
  obtain ⟨h1, h2⟩ := (flowOk_iff flow).mp hf
  have hb := map_sum_bounds flow (fun f => isq (f * p * p)) 0 1000 (fun x hx => by have := flow_isq (h2 x hx) hp; omega)
  have hc := map_sum_bounds flow (fun f => csq (f * p * p)) 0 1000 (fun x hx => by have := flow_isq (h2 x hx) hp; omega)
  have hm := mono_sum flow (fun f => isq (f * p * p)) (fun f => csq (f * p * p)) (fun x hx => (flow_isq (h2 x hx) hp).2.1)
  unfold rootsL rootsH; omega
theorem good_low {a c p : Int} (hp : 1 ≤ p ∧ p ≤ 1000000000) (ha : 0 ≤ a) (hac : a ≤ c) (hc : c ≤ 1000000000) : goodB (lowNum a p) (lowDen a p) (lowNum c p) (lowDen c p) = true := by
  unfold goodB
  have h1 : bothGood (lowNum a p) (lowDen a p) (lowNum c p) (lowDen c p) = true := (bothGood_iff _ _ _ _).mpr ⟨low_good a p (by omega) hp, low_good c p (by omega) hp⟩
  have h2 : ¬ lowNum c p * lowDen a p < lowNum a p * lowDen c p := fun h => by
    have := (low_lt_iff (a := c) (b := p) (c := a) (d := p) (by omega) (by omega)).mp h
    have := Int.lt_of_mul_lt_mul_right this (by omega)
    omega
  rw [h1, decide_eq_true (low_nonneg (by omega) ha), decide_eq_false h2]; rfl
theorem sumB_flow {flow : List Int} {p : Int} (hf : flowOk flow = true) (hp : 1 ≤ p ∧ p ≤ 100) :
    sumB (flow.map (bndOf p)) = (lowNum (rootsL flow p) p, lowDen (rootsL flow p) p, lowNum (rootsH flow p) p, lowDen (rootsH flow p) p, true) := by
  obtain ⟨h1, h2⟩ := (flowOk_iff flow).mp hf
  have e1 : losOf (flow.map (bndOf p)) = flow.map fun f => (lowNum (isq (f * p * p)) p, lowDen (isq (f * p * p)) p) := by unfold losOf; rw [List.map_map]; rfl
  have e2 : hisOf (flow.map (bndOf p)) = flow.map fun f => (lowNum (csq (f * p * p)) p, lowDen (csq (f * p * p)) p) := by unfold hisOf; rw [List.map_map]; rfl
  have z := low_zero (p := p) (by omega)
  have s1 := sumF_low (fun f => isq (f * p * p)) p 1000 (by omega) (by omega) flow 0 (fun x hx => by have := flow_isq (h2 x hx) hp; omega) (by omega) (by omega)
  have s2 := sumF_low (fun f => csq (f * p * p)) p 1000 (by omega) (by omega) flow 0 (fun x hx => by have := flow_isq (h2 x hx) hp; omega) (by omega) (by omega)
  rw [z.1, z.2, Int.zero_add] at s1 s2
  unfold sumB
  rw [e1, e2, s1, s2]
  have hall : ((flow.map (bndOf p)).all fun b => goodB b.f0.f0 b.f0.f1 b.f1.f0 b.f1.f1) = true := by
    rw [List.all_eq_true]
    intro b hb
    obtain ⟨f, hf2, rfl⟩ := List.mem_map.mp hb
    have := flow_isq (h2 f hf2) hp
    exact good_low (by omega) (by omega) (by omega) (by omega)
  rw [if_pos ⟨by rw [List.length_map]; omega, hall, rfl, rfl⟩]
  rfl
theorem low_sq {a p room : Int} (hp : 0 < p) (hr : 0 < room) : lowNum (lowNum a p * lowNum a p) (lowDen a p * lowDen a p * room) = lowNum (a * a) (p * p * room) ∧ lowDen (lowNum a p * lowNum a p) (lowDen a p * lowDen a p * room) = lowDen (a * a) (p * p * room) := by
  have x := low_cross a p hp
  have d := (low_den_pos a p hp).1
  refine low_eq (Int.mul_pos (Int.mul_pos (by omega) (by omega)) hr) (Int.mul_pos (Int.mul_pos hp hp) hr) ?_
  generalize lowNum a p = n at *
  generalize lowDen a p = q at *
  calc n * n * (p * p * room) = (n * p) * (n * p) * room := by rw [← Int.mul_assoc (n * n)]; congr 1; rw [Int.mul_assoc, Int.mul_assoc]; congr 1; rw [Int.mul_left_comm]
    _ = (a * q) * (a * q) * room := by rw [x]
    _ = a * a * (q * q * room) := by rw [← Int.mul_assoc (a * a)]; congr 1; rw [Int.mul_assoc, Int.mul_assoc]; congr 1; rw [Int.mul_left_comm]
theorem low_small {a p : Int} (hp : 1 ≤ p ∧ p ≤ 100) (ha : 0 ≤ a ∧ a ≤ 8000) {room : Int} (hr : 8 ≤ room ∧ room ≤ 1000) :
    (0 ≤ lowNum a p ∧ lowNum a p ≤ 8000) ∧ (1 ≤ lowDen a p ∧ lowDen a p ≤ 100) ∧ (0 ≤ lowNum a p * lowNum a p ∧ lowNum a p * lowNum a p ≤ 64000000) ∧ (1 ≤ lowDen a p * lowDen a p ∧ lowDen a p * lowDen a p ≤ 10000) ∧ (1 ≤ lowDen a p * lowDen a p * room ∧ lowDen a p * lowDen a p * room ≤ 10000000) := by
  have n1 := low_num_le a p 8000 (by omega) (by omega)
  have n0 := low_nonneg (a := a) (b := p) (by omega) ha.1
  have d1 := low_den_pos a p (by omega)
  have m1 := mul_small (a := lowNum a p) (b := lowNum a p) (m := 8000) (n := 8000) (by omega) (by omega)
  have m2 := mul_small (a := lowDen a p) (b := lowDen a p) (m := 100) (n := 100) (by omega) (by omega)
  have m3 : 0 < lowDen a p * lowDen a p := Int.mul_pos (by omega) (by omega)
  have m4 := mul_small (a := lowDen a p * lowDen a p) (b := room) (m := 10000) (n := 1000) (by omega) (by omega)
  have m5 : 0 < lowDen a p * lowDen a p * room := Int.mul_pos m3 (by omega)
  exact ⟨by omega, by omega, by omega, by omega, by omega⟩

theorem impl_isRoom_ev (flow : List Int) (room : Int) (h : flow.length ≤ 1048576) : Ev (fun k => impl_isRoom.f k flow room) (flowOk flow && (decide (8 ≤ room) && decide (room ≤ 1000))) := by
  unfold impl_isRoom.f
  refine Ev.bind (impl_isFlow_ev flow (by omega)) (Ev.ite (fun h1 => ?_) (fun h1 => ?_))
  · rw [h1]; exact Ev.bind0 (impl_within_eq _ _ _) (Ev.now _)
  · rw [Bool.eq_false_iff.mpr h1]; exact Ev.now _
theorem impl_LeastCost_ev (flow : List Int) (room p : Int) (h : flow.length ≤ 1048576) : Ev (fun k => impl_LeastCost.f k flow room p) (leastB flow room p) := by
  unfold impl_LeastCost.f leastB
  have no : ∀ x : Bool, x = true → Ev (fun k => impl_LeastCost.j0 k flow room p x) (0, 0, 0, 0, false) := fun x hx => by
    refine Ev.succ ?_; simp only [impl_LeastCost.j0]; exact Ev.pos hx (Ev.now _)
  refine Ev.bind (impl_isRoom_ev flow room h) (Ev.ite (fun h1 => Ev.bind0 (impl_within_eq _ _ _) ?_) (fun h1 => ?_))
  · have h1' : flowOk flow = true ∧ 8 ≤ room ∧ room ≤ 1000 := by simpa using h1
    obtain ⟨hf, hr⟩ := h1'
    by_cases hp : 1 ≤ p ∧ p ≤ 100
    · rw [if_pos ⟨hf, hr, hp⟩]
      obtain ⟨f1, f2⟩ := (flowOk_iff flow).mp hf
      refine Ev.succ ?_
      simp only [impl_LeastCost.j0]
      refine Ev.neg (by simp; omega) ?_
      refine ev_up flow.length (fun k i => impl_LeastCost.l0 k room p ((flow.take i).map (bndOf p)) flow (flow.length : Int) (i : Int)) _ (fun _ => True) trivial ?_ ?_
      · intro _
        refine Ev.succ ?_
        simp only [impl_LeastCost.l0]
        refine Ev.neg (by omega) ?_
        rw [List.take_length]
        refine Ev.bind (Ev.to (impl_SumBounds_ev _ (by rw [List.length_map]; omega)) (sumB_flow hf hp)) (Ev.pos rfl ?_)
        dsimp only
        have b := roots_bounds hf hp
        obtain ⟨a1, a2, a3, a4, a5⟩ := low_small hp (show 0 ≤ rootsL flow p ∧ rootsL flow p ≤ 8000 by omega) hr
        obtain ⟨c1, c2, c3, c4, c5⟩ := low_small hp (show 0 ≤ rootsH flow p ∧ rootsH flow p ≤ 8000 by omega) hr
        rw [w64 (x := lowNum (rootsL flow p) p * _) (by omega) (by omega), w64 (x := lowNum (rootsH flow p) p * _) (by omega) (by omega), w64 (x := lowDen (rootsL flow p) p * lowDen (rootsL flow p) p) (by omega) (by omega), w64 (x := lowDen (rootsH flow p) p * lowDen (rootsH flow p) p) (by omega) (by omega),
          w64 (x := lowDen (rootsL flow p) p * lowDen (rootsL flow p) p * room) (by omega) (by omega), w64 (x := lowDen (rootsH flow p) p * lowDen (rootsH flow p) p * room) (by omega) (by omega)]
        have q1 := low_sq (a := rootsL flow p) (p := p) (room := room) (by omega) (by omega)
        have q2 := low_sq (a := rootsH flow p) (p := p) (room := room) (by omega) (by omega)
        have g1 := low_good (lowNum (rootsL flow p) p * lowNum (rootsL flow p) p) (lowDen (rootsL flow p) p * lowDen (rootsL flow p) p * room) (by omega) (by omega)
        have g2 := low_good (lowNum (rootsH flow p) p * lowNum (rootsH flow p) p) (lowDen (rootsH flow p) p * lowDen (rootsH flow p) p * room) (by omega) (by omega)
        refine Ev.bind (impl_lowest_fits _ _ (by omega) (by omega) (by omega)) (Ev.bind (impl_lowest_fits _ _ (by omega) (by omega) (by omega)) ?_)
        unfold fits
        rw [if_pos g1, if_pos g2]
        refine Ev.pos rfl (Ev.pos rfl (Ev.to (Ev.now _) ?_))
        rw [← q1.1, ← q1.2, ← q2.1, ← q2.2]
      · intro i hi _ hnx
        have hnx := hnx trivial
        refine Ev.succ ?_
        simp only [impl_LeastCost.l0]
        refine Ev.pos (by omega) (Ev.pos (by omega) (Ev.pos (by omega) ?_))
        rw [rd_nat flow i hi, w64n hi (by omega)]
        refine Ev.bind (Ev.to (impl_RootBounds_ev _ _) (rootB_flow (f2 _ (List.getElem_mem hi)) hp)) (Ev.pos rfl (Ev.pos (by simp; omega) ?_))
        rw [List.take_succ_eq_append_getElem hi, List.map_append] at hnx
        exact hnx
    · rw [if_neg (fun h => hp h.2.2)]; exact no _ (by simp; omega)
  · rw [if_neg (fun h => h1 (by simp [h.1, h.2.1]))]; exact no _ rfl

theorem least_good {flow : List Int} {room p : Int} (hf : flowOk flow = true) (hr : 8 ≤ room ∧ room ≤ 1000) (hp : 1 ≤ p ∧ p ≤ 100) :
    goodB (lowNum (rootsL flow p * rootsL flow p) (p * p * room)) (lowDen (rootsL flow p * rootsL flow p) (p * p * room)) (lowNum (rootsH flow p * rootsH flow p) (p * p * room)) (lowDen (rootsH flow p * rootsH flow p) (p * p * room)) = true := by
  have b := roots_bounds hf hp
  have m1 := mul_small (a := rootsH flow p) (b := rootsH flow p) (m := 8000) (n := 8000) (by omega) (by omega)
  have m2 := sq_le_sq b.1 b.2.1
  have m3 : 0 ≤ rootsL flow p * rootsL flow p := Int.mul_nonneg b.1 b.1
  have m4 := mul_small (a := p) (b := p) (m := 100) (n := 100) (by omega) (by omega)
  have m5 := mul_small (a := p * p) (b := room) (m := 10000) (n := 1000) (by omega) (by omega)
  have m6 : 0 < p * p * room := Int.mul_pos (Int.mul_pos (by omega) (by omega)) (by omega)
  exact good_low (by omega) m3 m2 (by omega)

theorem cur_flow (l : List Int) (a s : Int) (hl : bytesOk l) (ha : 0 ≤ a ∧ a ≤ 4611686018427380000) :
    ∃ (r : List Int) (a' s' : Int), Ev (fun k => spec_l1Cur_flow.f k l a s) (r, a', s') ∧ r.length ≤ 100 ∧ a ≤ a' ∧ a' ≤ a + 1000 := by
  have loop : ∀ (n : Nat) (x : List Int) (a s : Int), x.length + n ≤ 100 → (0 ≤ a ∧ a + 2 * n + 10 ≤ 4611686018427387000) →
      ∃ (r : List Int) (a' s' : Int), Ev (fun k => spec_l1Cur_flow.l0 k x (n : Int) l a s) (r, a', s') ∧ r.length ≤ 100 ∧ a ≤ a' ∧ a' ≤ a + 2 * n + 10 := by
    intro n
    induction n with
    | zero =>
      intro x a s hx ha
      have step : ∀ {r : List Int × Int × Int}, Ev (fun k => if (x.length : Int) > 0 then ((spec_l1Cur_one.f l a s 30).bind fun bt119 => (if bt119.1 = true then ((spec_l1Cur_among.f l bt119.2.1 bt119.2.2 (([0, 31] : List Int))).bind fun bt125 => (if 0 < (x.length : Int) then (some ((x.set (0 : Int).toNat bt125.1), bt125.2.1, bt125.2.2)) else (none))) else (some (x, bt119.2.1, bt119.2.2)))) else (some (x, a, s))) r → Ev (fun k => spec_l1Cur_flow.l0 k x ((0 : Nat) : Int) l a s) r := fun h => by
        refine Ev.succ ?_; simp only [spec_l1Cur_flow.l0]; exact Ev.neg (by omega) h
      by_cases h0 : (x.length : Int) > 0
      · obtain ⟨b, a1, s1, e1, h1⟩ := cur_one l a s 30 hl (by omega)
        cases b with
        | true =>
          obtain ⟨m, a2, s2, e2, h2, h3⟩ := cur_among l a1 s1 [0, 31] hl (by omega) (by simp)
          exact ⟨_, a2, s2, step (Ev.pos h0 (Ev.bind0 e1 (Ev.pos rfl (Ev.bind0 e2 (Ev.pos (by omega) (Ev.now _)))))), by rw [List.length_set]; omega, by omega, by omega⟩
        | false => exact ⟨x, a1, s1, step (Ev.pos h0 (Ev.bind0 e1 (Ev.neg (by simp) (Ev.now _)))), by omega, by omega, by omega⟩
      · exact ⟨x, a, s, step (Ev.neg h0 (Ev.now _)), by omega, by omega, by omega⟩
    | succ n ih =>
      intro x a s hx ha
      obtain ⟨p, a1, s1, e, h0, h1, h2⟩ := cur_pick l a s 30 hl (by omega)
      obtain ⟨r, a2, s2, hr, h3, h4, h5⟩ := ih (x ++ [wrap64 (1 + p)]) a1 s1 (by simp; omega) (by omega)
      refine ⟨r, a2, s2, Ev.succ ?_, h3, by omega, by omega⟩
      simp only [spec_l1Cur_flow.l0]
      refine Ev.pos (by omega) (Ev.bind0 e (Ev.pos (by omega) ?_))
      rw [w64 (x := ((n + 1 : Nat) : Int) - 1) (by omega) (by omega), show ((n + 1 : Nat) : Int) - 1 = (n : Int) by omega]
      exact hr
  unfold spec_l1Cur_flow.f
  obtain ⟨n, a1, s1, e1, h0, h1, h2⟩ := cur_pick l a s 4 hl (by omega)
  obtain ⟨b, a2, s2, e2, h3⟩ := cur_one l a1 s1 12 hl (by omega)
  cases b with
  | true =>
    obtain ⟨m, a3, s3, e3, h4, h5⟩ := cur_among l a2 s2 [0, 8, 9] hl (by omega) (by simp)
    simp only [List.mem_cons, List.not_mem_nil, or_false] at h4
    obtain ⟨r, a4, s4, hr, h6, h7, h8⟩ := loop m.toNat [] a3 s3 (by simp; omega) (by omega)
    rw [show (m.toNat : Int) = m by omega] at hr
    refine ⟨r, a4, s4, Ev.bind0 e1 (Ev.bind0 e2 (Ev.pos rfl (Ev.bind0 e3 (Ev.succ ?_)))), h6, by omega, by omega⟩
    simp only [spec_l1Cur_flow.j0]; exact hr
  | false =>
    obtain ⟨r, a4, s4, hr, h6, h7, h8⟩ := loop (1 + n).toNat [] a2 s2 (by simp; omega) (by omega)
    rw [show ((1 + n).toNat : Int) = 1 + n by omega] at hr
    refine ⟨r, a4, s4, Ev.bind0 e1 (Ev.bind0 e2 (Ev.neg (by simp) (Ev.succ ?_))), h6, by omega, by omega⟩
    simp only [spec_l1Cur_flow.j0]; rw [w64 (by omega) (by omega)]; exact hr

theorem cur_room (l : List Int) (a s : Int) (hl : bytesOk l) (ha : 0 ≤ a ∧ a ≤ 4611686018427387900) :
    ∃ r a' s', spec_l1Cur_room.f l a s = some (r, a', s') ∧ (7 ≤ r ∧ r ≤ 1001) ∧ a ≤ a' ∧ a' ≤ a + 2 := by
  unfold spec_l1Cur_room.f
  obtain ⟨r, a1, s1, e1, h1, h2⟩ := cur_among l a s [7, 8, 20, 50, 100, 360, 1000, 1001] hl ha (by simp)
  simp only [List.mem_cons, List.not_mem_nil, or_false] at h1
  exact ⟨r, a1, s1, by rw [e1]; rfl, by omega, h2⟩

def bump (flow counts : List Int) : List Int := counts.set (nextOf flow counts) (counts[nextOf flow counts]! + 1)
def shareUp (flow : List Int) : Nat → List Int
  | 0 => List.replicate flow.length 1
  | i + 1 => bump flow (shareUp flow i)
def shareOf (flow : List Int) (places : Int) : List Int := shareUp flow (places - flow.length).toNat
def kindsOk (flow : List Int) (places : Int) : Bool := flowOk flow && (decide ((flow.length : Int) ≤ places) && decide (places ≤ 40))

def upFrom (k : Int) (n : Nat) : List Int := (List.range n).map fun (j : Nat) => k + (j : Int)

def jn (E : List (Nat × Nat)) (T : Nat → Bool) : Nat → Nat → Prop
  | 0, u => T u = true
  | n + 1, u => T u = true ∨ ∃ v, ((u, v) ∈ E ∨ (v, u) ∈ E) ∧ jn E T n v
def Jn (E : List (Nat × Nat)) (T : Nat → Bool) (u : Nat) : Prop := ∃ n, jn E T n u
theorem Jn.base {E : List (Nat × Nat)} {T : Nat → Bool} {u : Nat} (h : T u = true) : Jn E T u := ⟨0, h⟩
theorem Jn.step {E : List (Nat × Nat)} {T : Nat → Bool} {u v : Nat} (h : (u, v) ∈ E ∨ (v, u) ∈ E) (k : Jn E T v) : Jn E T u := by
  obtain ⟨n, hn⟩ := k; exact ⟨n + 1, .inr ⟨v, h, hn⟩⟩
theorem Jn.rule {E : List (Nat × Nat)} {T : Nat → Bool} {P : Nat → Prop} (hb : ∀ u, T u = true → P u)
    (hs : ∀ u v, ((u, v) ∈ E ∨ (v, u) ∈ E) → Jn E T v → P v → P u) {u : Nat} (h : Jn E T u) : P u := by
  obtain ⟨n, hn⟩ := h
  induction n generalizing u with
  | zero => exact hb u hn
  | succ n ih =>
    rcases hn with h | ⟨v, h, hv⟩
    · exact hb u h
    · exact hs u v h ⟨n, hv⟩ (ih hv)
theorem Jn.trans {E E' : List (Nat × Nat)} {T T' : Nat → Bool} {u : Nat} (h : Jn E T u) (k : ∀ x, T x = true → Jn E' T' x) (hE : ∀ e ∈ E, e ∈ E') : Jn E' T' u :=
  h.rule k fun _ _ he _ p => Jn.step (he.imp (hE _) (hE _)) p
theorem Jn.move {E : List (Nat × Nat)} {J : Nat → Bool} {v x s : Nat} {e : Nat × Nat} (hxs : e = (x, s) ∨ e = (s, x)) (hs : J s = true)
    (hj : Jn (E.erase e) (fun u => decide (u = v)) x) {u : Nat} (h : Jn E J u) : Jn (E.erase e) (fun y => J y || decide (y = v)) u := by
  have hx : Jn (E.erase e) (fun y => J y || decide (y = v)) x := hj.trans (fun y hy => Jn.base (by simp at hy; simp [hy])) (fun _ h => h)
  have hss : Jn (E.erase e) (fun y => J y || decide (y = v)) s := Jn.base (by simp [hs])
  refine h.rule (P := fun u => Jn (E.erase e) (fun y => J y || decide (y = v)) u) (fun u hu => Jn.base (by simp [hu])) ?_
  intro u w hf _ ih
  by_cases h1 : (u, w) = e
  · rcases hxs with h2 | h2 <;> rw [h2] at h1 <;> injection h1 with h3 h4
    · rw [h3]; exact hx
    · rw [h3]; exact hss
  · by_cases h2 : (w, u) = e
    · rcases hxs with h3 | h3 <;> rw [h3] at h2 <;> injection h2 with h4 h5
      · rw [h5]; exact hss
      · rw [h5]; exact hx
    · refine Jn.step (v := w) ?_ ih
      rcases hf with hf | hf
      · exact .inl ((List.mem_erase_of_ne h1).mpr hf)
      · exact .inr ((List.mem_erase_of_ne h2).mpr hf)
def sumW (w : Nat → Nat → Int) (E : List (Nat × Nat)) : Int := (E.map fun e => w e.1 e.2).sum
def nearUp (w : Nat → Nat → Int) (J : Nat → Bool) (i : Nat) : Nat → Option Nat
  | 0 => none
  | k + 1 => match nearUp w J i k with
    | none => if J k = true then some k else none
    | some m => if J k = true ∧ w i k < w i m then some k else some m
def pickUp (w : Nat → Nat → Int) (J : Nat → Bool) (n : Nat) : Nat → Option (Nat × Nat)
  | 0 => none
  | i + 1 => match pickUp w J n i with
    | none => if J i = true then none else (nearUp w J i n).map fun m => (i, m)
    | some p => if J i = true then some p else match nearUp w J i n with
      | none => some p
      | some m => if w i m < w p.1 p.2 then some (i, m) else some p

def updP (w : Nat → Nat → Int) (J : Nat → Bool) (i : Nat) (p : Option (Nat × Nat)) (m : Option Nat) : Option (Nat × Nat) :=
  if J i = true then p else match m with
    | none => p
    | some m => match p with
      | none => some (i, m)
      | some q => if w i m < w q.1 q.2 then some (i, m) else some q
def jd (J : List Bool) (m : Nat) : Bool := rdOf false J (m : Int)
def primSt (w : Nat → Nat → Int) (n : Nat) : Nat → List Int × Int × List Bool
  | 0 => (List.replicate n (-1), 0, (List.replicate n false).set 0 true)
  | t + 1 => match pickUp w (jd (primSt w n t).2.2) n n with
    | none => primSt w n t
    | some q => ((primSt w n t).1.set q.1 (q.2 : Int), (primSt w n t).2.1 + w q.1 q.2, (primSt w n t).2.2.set q.1 true)
def sumTo (f : Nat → Int) : Nat → Int
  | 0 => 0
  | n + 1 => sumTo f n + f n
theorem sumTo_congr {f g : Nat → Int} {n : Nat} (h : ∀ i, i < n → f i = g i) : sumTo f n = sumTo g n := by
  induction n with
  | zero => rfl
  | succ n ih => rw [sumTo, sumTo, ih (fun i hi => h i (by omega)), h n (by omega)]
structure PrimOk (w : Nat → Nat → Int) (n : Nat) (E : List (Nat × Nat)) (t : Nat) (s : List Int × Int × List Bool) : Prop where
  l1 : s.1.length = n
  l2 : s.2.2.length = n
  cnt : s.2.2.count true = t + 1
  j0 : jd s.2.2 0 = true
  o0 : rd s.1 0 = -1
  up : ∀ i, i < n → i ≠ 0 → jd s.2.2 i = true → 0 ≤ rd s.1 i ∧ rd s.1 i < n ∧ rd s.1 i ≠ i
  all : ∀ i, i < n → -1 ≤ rd s.1 i ∧ rd s.1 i < n
  sum : s.2.1 = sumTo (fun i => if jd s.2.2 i = true ∧ i ≠ 0 then w i (rd s.1 i).toNat else 0) n
  pot : ∃ E', (∀ e ∈ E', e ∈ E) ∧ sumW w E' + s.2.1 ≤ sumW w E ∧ ∀ u, u < n → Jn E' (jd s.2.2) u

def allTo (P : Nat → Bool) (n : Nat) : Bool := (List.range n).all P
def KK : Int := 219060189739591200
def kd (c : Int) : Int := KK / c
def gK (c : Int) : Int := kd c - kd (c + 1)
def Stab (n : Nat) (f c : Nat → Int) : Prop := ∀ i k, i < n → k < n → i ≠ k → 1 < c i → f k * gK (c k) ≤ f i * gK (c i - 1)
def costN (n : Nat) (f c : Nat → Int) : Int := sumTo (fun i => f i * kd (c i)) n
theorem rd_mem {l : List Int} {j : Nat} (h : j < l.length) : rd l j ∈ l := by rw [rd_nat l j h]; exact List.getElem_mem h
theorem sum_eq_sumTo (l : List Int) : l.sum = sumTo (fun (j : Nat) => rd l j) l.length := by
  have gen : ∀ i, i ≤ l.length → (l.take i).sum = sumTo (fun (j : Nat) => rd l j) i := by
    intro i
    induction i with
    | zero => intro _; rfl
    | succ i ih => intro hi; rw [sum_take_succ l i (by omega), ih (by omega), sumTo, rd_nat l i (by omega)]
  have := gen l.length (Nat.le_refl _)
  rwa [List.take_length] at this
def tK (x : Int × Int) : Int := x.1 * KK / x.2
def isT (x : Int × Int) (t : Int) : Prop := 1 ≤ x.2 ∧ x.1 * KK = x.2 * t
def ratioL (flow counts : List Int) : List (Int × Int) := (List.range flow.length).map fun (j : Nat) => (lowNum (rd flow j) (rd counts j), lowDen (rd flow j) (rd counts j))
def costF (flow counts : List Int) : Int × Int × Bool := if countsOk flow counts = true then sumF (ratioL flow counts) (0, 1) else (0, 0, false)
theorem range_sum (f : Nat → Int) (n : Nat) : ((List.range n).map f).sum = sumTo f n := by
  induction n with
  | zero => rfl
  | succ n ih => rw [List.range_succ, List.map_append, List.sum_append, ih, sumTo]; simp

def viol (flow counts : List Int) (i k : Nat) : Bool := decide (i ≠ k ∧ 1 < rd counts i ∧ rd flow i * gK (rd counts i - 1) < rd flow k * gK (rd counts k))
def stabB (flow counts : List Int) : Bool := allTo (fun i => allTo (fun k => !viol flow counts i k) flow.length) flow.length
def stableF (flow counts : List Int) : Bool × Bool := if countsOk flow counts = true then (stabB flow counts, true) else (false, false)

def ratioS (flow counts : List Int) (n : Nat) : List S35 := (List.range n).map fun (j : Nat) => ⟨lowNum (rd flow j) (rd counts j), lowDen (rd flow j) (rd counts j)⟩
theorem ratioS_succ (flow counts : List Int) (n : Nat) : ratioS flow counts (n + 1) = ratioS flow counts n ++ [⟨lowNum (rd flow n) (rd counts n), lowDen (rd flow n) (rd counts n)⟩] := by unfold ratioS; rw [List.range_succ, List.map_append]; rfl
theorem ratioS_map (flow counts : List Int) : (ratioS flow counts flow.length).map (fun x => (x.f0, x.f1)) = ratioL flow counts := by unfold ratioS ratioL; rw [List.map_map]; rfl

theorem laws_sumOf_ev (l : List Int) (lo hi : Int) (h : ∀ x ∈ l, lo ≤ x ∧ x ≤ hi) (hlo : -1048576 ≤ lo) (hhi : hi ≤ 1073741824) (hl : l.length ≤ 1048576) : Ev (fun k => laws_sumOf.f k l) l.sum := by
  unfold laws_sumOf.f
  refine ev_up l.length (fun k i => laws_sumOf.l0 k (l.take i).sum l (l.length : Int) (i : Int)) _ (fun _ => True) trivial ?_ ?_
  · intro _
    refine Ev.step0 (Ev.of_eq fun _ => rfl) fun k => ?_
    simp only [laws_sumOf.l0]; rw [if_neg (by omega), List.take_length]
  · intro i hi' _ hn
    have hs := sum_take_succ l i hi'
    have hb := sum_bounds (l.take (i + 1)) (-1048576) 1073741824 fun x hx => by have := h x (List.mem_of_mem_take hx); omega
    have hlen : (l.take (i + 1)).length ≤ 1048576 := by rw [List.length_take]; omega
    refine Ev.step0 (hn trivial) fun k => ?_
    simp only [laws_sumOf.l0]; rw [if_pos (lt_len hi'), if_pos (by omega), if_pos (lt_len hi'), rd_nat l i hi', ← hs, w64 (by omega) (by omega), w64 (by omega) (by omega)]; rfl

def fluidOk (flow parts : List Int) : Bool := flowOk flow && (decide ((parts.length : Int) = (flow.length : Int)) && allIn parts 1 1000)
def fluidF (flow parts : List Int) : Int × Int × Bool := if fluidOk flow parts = true then sumF (ratioL flow parts) (0, 1) else (0, 0, false)
theorem fluidOk_rd {flow parts : List Int} (h : fluidOk flow parts = true) : flowOk flow = true ∧ (1 ≤ flow.length ∧ flow.length ≤ 8) ∧ parts.length = flow.length ∧ (∀ j : Nat, j < flow.length → 1 ≤ rd flow j ∧ rd flow j ≤ 30) ∧ (∀ j : Nat, j < flow.length → 1 ≤ rd parts j ∧ rd parts j ≤ 1000) ∧ (∀ x ∈ parts, 1 ≤ x ∧ x ≤ 1000) := by
  simp only [fluidOk, Bool.and_eq_true, decide_eq_true_eq, allIn_iff] at h
  obtain ⟨h1, h2, h3⟩ := h
  obtain ⟨f1, f2⟩ := (flowOk_iff _).mp h1
  exact ⟨h1, f1, by omega, fun j hj => f2 _ (rd_mem hj), fun j hj => h3 _ (rd_mem (by omega)), h3⟩

theorem impl_FluidCost_ev (flow parts : List Int) (h1 : flow.length ≤ 1048576) (h2 : parts.length ≤ 1048576) : Ev (fun k => impl_FluidCost.f k flow parts) (fluidF flow parts) := by
  unfold impl_FluidCost.f
  have no : fluidOk flow parts = false → Ev (fun _ => some ((0 : Int), (0 : Int), false)) (fluidF flow parts) := fun h => Ev.to (Ev.now _) (by unfold fluidF; rw [if_neg (by rw [h]; simp)])
  refine Ev.bind (impl_isFlow_ev flow (by omega)) (Ev.ite (fun q1 => Ev.ite (fun q2 => Ev.bind (impl_allWithin_ev parts 1 1000 (by omega)) (Ev.ite (fun q3 => ?_) (fun q3 => no (by unfold fluidOk; rw [Bool.eq_false_iff.mpr q3]; simp)))) (fun q2 => no (by unfold fluidOk; rw [decide_eq_false q2]; simp))) (fun q1 => no (by unfold fluidOk; rw [Bool.eq_false_iff.mpr q1]; simp)))
  have h : fluidOk flow parts = true := by unfold fluidOk; rw [q1, q3, decide_eq_true q2]; rfl
  obtain ⟨_, b1, b2, b3, b4, _⟩ := fluidOk_rd h
  have key : Ev (fun k => impl_ratios.f k flow parts) (sumF (ratioL flow parts) (0, 1)) := by
    unfold impl_ratios.f
    refine ev_up flow.length (fun k i => impl_ratios.l0 k parts (ratioS flow parts i) flow (flow.length : Int) (i : Int)) _ (fun _ => True) trivial ?_ ?_
    · intro _
      refine Ev.succ ?_
      simp only [impl_ratios.l0]
      refine Ev.neg (by omega) ?_
      have := impl_sumFracs_ev (ratioS flow parts flow.length) (by simp [ratioS]; omega)
      rw [ratioS_map] at this
      exact Ev.bind this (Ev.now _)
    · intro i hi _ hn
      have hn := hn trivial
      have c1 := b4 i hi
      have f1 := b3 i hi
      refine Ev.succ ?_
      simp only [impl_ratios.l0]
      refine Ev.pos (by omega) (Ev.pos (by omega) (Ev.pos (by omega) (Ev.pos (by omega) ?_)))
      rw [w64n hi (by omega)]
      have e : fits (lowNum (rd flow i) (rd parts i), lowDen (rd flow i) (rd parts i)) = (lowNum (rd flow i) (rd parts i), lowDen (rd flow i) (rd parts i), true) := by
        unfold fits; rw [if_pos (low_good _ _ (by omega) (by omega))]
      refine Ev.bind (Ev.to (impl_lowest_fits _ _ (by omega) (by omega) (by omega)) e) (Ev.pos (by simp [ratioS]; omega) ?_)
      rw [ratioS_succ] at hn; exact hn
  refine Ev.to (Ev.bind key (Ev.now _)) ?_
  unfold fluidF; rw [if_pos h]

theorem spec_FluidCost_ev (flow parts : List Int) (h1 : flow.length ≤ 1048576) (h2 : parts.length ≤ 1048576) : Ev (fun k => spec_FluidCost.f k flow parts) (fluidF flow parts) := by
  unfold spec_FluidCost.f
  have no : fluidOk flow parts = false → Ev (fun k => spec_FluidCost.j0 k flow parts true) (fluidF flow parts) := fun h => by
    refine Ev.succ ?_
    simp only [spec_FluidCost.j0]
    exact Ev.pos trivial (Ev.to (Ev.now _) (by unfold fluidF; rw [if_neg (by rw [h]; simp)]))
  refine Ev.bind (spec_l4Flow_ev flow (by omega)) (Ev.ite (fun q1 => Ev.ite (fun q2 => Ev.bind (spec_l1All_ev parts 1 1000 (by omega)) ?_) (fun q2 => no (by unfold fluidOk; rw [decide_eq_false q2]; simp))) (fun q1 => no (by unfold fluidOk; rw [Bool.eq_false_iff.mpr q1]; simp)))
  cases q3 : allIn parts 1 1000 with
  | false => exact no (by unfold fluidOk; rw [q3]; simp)
  | true =>
    have h : fluidOk flow parts = true := by unfold fluidOk; rw [q1, q3, decide_eq_true q2]; rfl
    obtain ⟨_, b1, b2, b3, b4, _⟩ := fluidOk_rd h
    have ef : fluidF flow parts = sumF (ratioL flow parts) (0, 1) := by unfold fluidF; rw [if_pos h]
    rw [ef]
    refine Ev.succ ?_
    simp only [spec_FluidCost.j0]
    refine Ev.neg (by simp) ?_
    refine ev_up flow.length (fun k i => spec_FluidCost.l0 k parts (ratioS flow parts i) flow (flow.length : Int) (i : Int)) _ (fun _ => True) trivial ?_ ?_
    · intro _
      refine Ev.succ ?_
      simp only [spec_FluidCost.l0]
      refine Ev.neg (by omega) ?_
      have := spec_SumFracs_ev (ratioS flow parts flow.length) (by simp [ratioS]; omega)
      rw [ratioS_map] at this
      have e : sumsF (ratioL flow parts) = sumF (ratioL flow parts) (0, 1) := by unfold sumsF; rw [if_pos (by simp [ratioL]; omega)]
      rw [e] at this
      exact Ev.bind this (Ev.now _)
    · intro i hi _ hn
      have hn := hn trivial
      have c1 := b4 i hi
      have f1 := b3 i hi
      refine Ev.succ ?_
      simp only [spec_FluidCost.l0]
      refine Ev.pos (by omega) (Ev.pos (by omega) (Ev.pos (by omega) (Ev.pos (by omega) ?_)))
      rw [w64n hi (by omega)]
      refine Ev.bind (spec_l1Make_ev _ _ (by omega) (by omega) (by omega)) (Ev.pos (by simp [ratioS]; omega) ?_)
      rw [ratioS_succ] at hn; exact hn

theorem four_sq (x y : Int) : 4 * (x * y) ≤ (x + y) * (x + y) := by
  have h : 0 ≤ (x - y) * (x - y) := by
    rcases Int.le_total 0 (x - y) with h | h
    · exact Int.mul_nonneg h h
    · have := Int.mul_nonneg (show 0 ≤ -(x - y) by omega) (show 0 ≤ -(x - y) by omega)
      rwa [Int.neg_mul_neg] at this
  rw [Int.sub_mul, Int.mul_sub, Int.mul_sub, Int.mul_comm y x] at h
  rw [Int.add_mul, Int.mul_add, Int.mul_add, Int.mul_comm y x]
  omega
theorem cauchy {n : Nat} {a t p : Nat → Int} {s D : Int} (hs : 0 ≤ s) (hD : 0 ≤ D) (ha : ∀ i, i < n → 0 ≤ a i) (ht : ∀ i, i < n → 0 ≤ t i) (hp : ∀ i, i < n → 0 ≤ p i) (h : ∀ i, i < n → a i * a i * D ≤ s * (t i * p i)) :
    0 ≤ sumTo a n ∧ 0 ≤ sumTo t n ∧ 0 ≤ sumTo p n ∧ sumTo a n * sumTo a n * D ≤ s * (sumTo t n * sumTo p n) := by
  induction n with
  | zero => simp [sumTo]
  | succ n ih =>
    obtain ⟨i1, i2, i3, i4⟩ := ih (fun i hi => ha i (by omega)) (fun i hi => ht i (by omega)) (fun i hi => hp i (by omega)) (fun i hi => h i (by omega))
    have a0 := ha n (by omega)
    have t0 := ht n (by omega)
    have p0 := hp n (by omega)
    have h0 := h n (by omega)
    simp only [sumTo]
    generalize sumTo a n = A at *
    generalize sumTo t n = F at *
    generalize sumTo p n = P at *
    generalize a n = u at *
    generalize t n = v at *
    generalize p n = w at *
    refine ⟨by omega, by omega, by omega, ?_⟩
    have x0 : 0 ≤ s * (F * w) := Int.mul_nonneg hs (Int.mul_nonneg i2 p0)
    have y0 : 0 ≤ s * (v * P) := Int.mul_nonneg hs (Int.mul_nonneg t0 i3)
    have m0 : 0 ≤ A * u * D := Int.mul_nonneg (Int.mul_nonneg i1 a0) hD
    have key : A * u * D + A * u * D ≤ s * (F * w) + s * (v * P) := by
      refine le_of_sq (by omega) (Int.le_trans ?_ (four_sq _ _))
      have e1 : (A * u * D + A * u * D) * (A * u * D + A * u * D) = 4 * ((A * A * D) * (u * u * D)) := by
        rw [show A * u * D + A * u * D = 2 * (A * u * D) by omega, show (A * A * D) * (u * u * D) = (A * u * D) * (A * u * D) by ac_rfl, Int.mul_assoc 2, Int.mul_left_comm (A * u * D) 2]; omega
      have e2 : s * (F * w) * (s * (v * P)) = s * (F * P) * (s * (v * w)) := by ac_rfl
      rw [e1, e2]
      have := Int.mul_le_mul i4 h0 (Int.mul_nonneg (Int.mul_nonneg a0 a0) hD) (Int.mul_nonneg hs (Int.mul_nonneg i2 i3))
      omega
    have e3 : (A + u) * (A + u) * D = A * A * D + (A * u * D + A * u * D) + u * u * D := by
      rw [Int.add_mul, Int.mul_add, Int.mul_add, Int.mul_comm u A, Int.add_mul, Int.add_mul, Int.add_mul]; omega
    have e4 : s * ((F + v) * (P + w)) = s * (F * P) + s * (F * w) + (s * (v * P) + s * (v * w)) := by
      rw [Int.add_mul, Int.mul_add, Int.mul_add, Int.mul_add, Int.mul_add, Int.mul_add]
    rw [e3, e4]; omega

def part1 (room all w : Int) : Int := if room * w / all = 0 then 1 else room * w / all
def partsOf (l : List Int) (room : Int) : List Int := l.map fun w => part1 room l.sum w
def roomOk (flow : List Int) (room : Int) : Bool := flowOk flow && (decide (8 ≤ room) && decide (room ≤ 1000))
theorem roomOk_iff (flow : List Int) (room : Int) : roomOk flow room = true ↔ flowOk flow = true ∧ 8 ≤ room ∧ room ≤ 1000 := by simp [roomOk, Bool.and_eq_true, decide_eq_true_eq]
theorem map_take_succ (l : List Int) (g : Int → Int) (i : Nat) (h : i < l.length) : (l.take (i + 1)).map g = (l.take i).map g ++ [g (rd l i)] := by
  rw [List.take_succ_eq_append_getElem h, List.map_append, rd_nat l i h]; rfl
theorem rd_map (l : List Int) (g : Int → Int) (i : Nat) (h : i < l.length) : rd (l.map g) i = g (rd l i) := by
  rw [rd_nat _ i (by simpa using h), rd_nat l i h]; simp
theorem part1_pos {room all w : Int} (hr : 0 ≤ room) (ha : 0 < all) (hw : 0 ≤ w) : 1 ≤ part1 room all w := by
  have := Int.ediv_nonneg (Int.mul_nonneg hr hw) (show 0 ≤ all by omega)
  unfold part1; split <;> omega
theorem part1_mono {room all w v : Int} (hr : 0 ≤ room) (ha : 0 < all) (hw : 0 ≤ w) (h : w ≤ v) : part1 room all w ≤ part1 room all v := by
  have h1 := Int.ediv_nonneg (Int.mul_nonneg hr hw) (show 0 ≤ all by omega)
  have h2 : room * w / all ≤ room * v / all := Int.ediv_le_ediv ha (Int.mul_le_mul_of_nonneg_left h hr)
  unfold part1; split <;> split <;> omega
theorem weights {l : List Int} (hl : ∀ x ∈ l, 1 ≤ x ∧ x ≤ 1000) (h1 : 1 ≤ l.length) : 1 ≤ l.sum ∧ l.sum ≤ 1000 * l.length := by
  have := sum_bounds l 1 1000 hl
  omega

theorem impl_isRoom_evR (flow : List Int) (room : Int) (h : flow.length ≤ 1048576) : Ev (fun k => impl_isRoom.f k flow room) (roomOk flow room) := by
  unfold impl_isRoom.f roomOk
  refine Ev.bind (impl_isFlow_ev flow (by omega)) (Ev.ite (fun h => ?_) (fun h => by rw [Bool.eq_false_iff.mpr h]; exact Ev.now _))
  rw [h]; exact Ev.bind0 (impl_within_eq _ _ _) (Ev.now _)

theorem spec_l5Room_evR (flow : List Int) (room : Int) (h : flow.length ≤ 1048576) : Ev (fun k => spec_l5Room.f k flow room) (roomOk flow room) := by
  unfold spec_l5Room.f roomOk
  refine Ev.bind (spec_l4Flow_ev flow (by omega)) (Ev.ite (fun h => ?_) (fun h => by rw [Bool.eq_false_iff.mpr h]; exact Ev.now _))
  rw [h]; exact Ev.bind0 (spec_l1In_eq _ _ _) (Ev.now _)

theorem impl_parted_ev (l : List Int) (room : Int) (hl : ∀ x ∈ l, 1 ≤ x ∧ x ≤ 1000) (h1 : 1 ≤ l.length ∧ l.length ≤ 8) (hr : 8 ≤ room ∧ room ≤ 1000) : Ev (fun k => impl_parted.f k l room) (partsOf l room) := by
  unfold impl_parted.f
  have hw := weights hl h1.1
  refine Ev.bind (impl_sum_ev l 1 1000 hl (by omega) (by omega) (by omega)) ?_
  refine ev_up l.length (fun k i => impl_parted.l0 k room ((l.take i).map fun w => part1 room l.sum w) l.sum l (l.length : Int) (i : Int)) _ (fun _ => True) trivial ?_ ?_
  · intro _
    refine Ev.succ ?_
    simp only [impl_parted.l0]
    exact Ev.neg (by omega) (Ev.to (Ev.now _) (by rw [List.take_length]; rfl))
  · intro i hi _ hn
    have hn := hn trivial
    rw [map_take_succ l _ i hi] at hn
    have hx := hl _ (rd_mem hi)
    have m1 := mul_small (a := room) (b := rd l i) (m := 1000) (n := 1000) (by omega) (by omega)
    have m2 := Int.ediv_nonneg m1.1 (show 0 ≤ l.sum by omega)
    have m3 : room * rd l i / l.sum ≤ room * rd l i := Int.ediv_le_self _ m1.1
    refine Ev.succ ?_
    simp only [impl_parted.l0]
    refine Ev.pos (by omega) (Ev.pos (by omega) (Ev.pos (by omega) (Ev.neg (by omega) (Ev.pos (by simp; omega) ?_))))
    rw [w64n hi (by omega), w64 (x := room * rd l i) (by omega) (by omega), Int.tdiv_eq_ediv_of_nonneg m1.1, w64 (x := room * rd l i / l.sum) (by omega) (by omega)]
    have e : mx 1 (room * rd l i / l.sum) = part1 room l.sum (rd l i) := by unfold mx part1; split <;> split <;> omega
    rw [e]; exact hn

theorem spec_l5Parts_ev (l : List Int) (room : Int) (hl : ∀ x ∈ l, 1 ≤ x ∧ x ≤ 1000) (h1 : 1 ≤ l.length ∧ l.length ≤ 8) (hr : 8 ≤ room ∧ room ≤ 1000) : Ev (fun k => spec_l5Parts.f k l room) (partsOf l room) := by
  unfold spec_l5Parts.f
  have hw := weights hl h1.1
  refine Ev.bind (spec_l3Sum_ev l 1 1000 hl (by omega) (by omega) (by omega)) ?_
  refine ev_up l.length (fun k i => spec_l5Parts.l0 k room l.sum ((l.take i).map fun w => part1 room l.sum w) l (l.length : Int) (i : Int)) _ (fun _ => True) trivial ?_ ?_
  · intro _
    refine Ev.succ ?_
    simp only [spec_l5Parts.l0]
    exact Ev.neg (by omega) (Ev.to (Ev.now _) (by rw [List.take_length]; rfl))
  · intro i hi _ hn
    have hn := hn trivial
    rw [map_take_succ l _ i hi] at hn
    have hx := hl _ (rd_mem hi)
    have m1 := mul_small (a := room) (b := rd l i) (m := 1000) (n := 1000) (by omega) (by omega)
    have m2 := Int.ediv_nonneg m1.1 (show 0 ≤ l.sum by omega)
    have m3 : room * rd l i / l.sum ≤ room * rd l i := Int.ediv_le_self _ m1.1
    refine Ev.succ ?_
    simp only [spec_l5Parts.l0]
    refine Ev.pos (by omega) (Ev.pos (by omega) (Ev.pos (by omega) (Ev.neg (by omega) ?_)))
    rw [w64n hi (by omega), w64 (x := room * rd l i) (by omega) (by omega), Int.tdiv_eq_ediv_of_nonneg m1.1, w64 (x := room * rd l i / l.sum) (by omega) (by omega)]
    refine Ev.ite (fun h0 => Ev.pos (by simp; omega) ?_) (fun h0 => Ev.pos (by simp; omega) ?_)
    · have e : part1 room l.sum (rd l i) = 1 := by unfold part1; rw [if_pos h0]
      rw [e] at hn; exact hn
    · have e : part1 room l.sum (rd l i) = room * rd l i / l.sum := by unfold part1; rw [if_neg h0]
      rw [e] at hn; exact hn

def rootW (flow : List Int) : List Int := flow.map fun f => isq (10000 * f)
theorem rootW_ok {flow : List Int} (hf : flowOk flow = true) : ∀ x ∈ rootW flow, 1 ≤ x ∧ x ≤ 1000 := by
  obtain ⟨f1, f2⟩ := (flowOk_iff flow).mp hf
  intro x hx
  obtain ⟨y, hy, rfl⟩ := List.mem_map.mp hx
  have h := f2 y hy
  have a := (le_isq (n := 10000 * y) (m := 1) (by omega) (by omega)).mp (by omega)
  have b := isq_le (n := 10000 * y) (m := 1000) (by omega) (by omega) (by omega)
  exact ⟨a, b⟩
theorem isq_mono {a b : Int} (h0 : 0 ≤ a) (h : a ≤ b) : isq a ≤ isq b := by
  have := isq_spec h0
  exact (le_isq (by omega) this.1).mp (by omega)
def rootF (flow : List Int) (room : Int) : List Int × Bool := if roomOk flow room = true then (partsOf (rootW flow) room, true) else ([], false)
def equalF (flow : List Int) (room : Int) : List Int × Bool := if roomOk flow room = true then (List.replicate flow.length (room / flow.length), true) else ([], false)
def timeF (flow : List Int) (room : Int) : List Int × Bool := if roomOk flow room = true then (partsOf flow room, true) else ([], false)

theorem impl_RootParts_ev (flow : List Int) (room : Int) (h : flow.length ≤ 1048576) : Ev (fun k => impl_RootParts.f k flow room) (rootF flow room) := by
  unfold impl_RootParts.f rootF
  refine Ev.bind (impl_isRoom_evR flow room h) (Ev.ite (fun q => ?_) (fun q => by rw [if_neg q]; exact Ev.now _))
  rw [if_pos q]
  obtain ⟨q1, q2⟩ := (roomOk_iff _ _).mp q
  obtain ⟨f1, f2⟩ := (flowOk_iff flow).mp q1
  refine ev_up flow.length (fun k i => impl_RootParts.l0 k room ((flow.take i).map fun f => isq (10000 * f)) flow (flow.length : Int) (i : Int)) _ (fun _ => True) trivial ?_ ?_
  · intro _
    refine Ev.succ ?_
    simp only [impl_RootParts.l0]
    rw [List.take_length]
    exact Ev.neg (by omega) (Ev.bind (impl_parted_ev (rootW flow) room (rootW_ok q1) (by simp [rootW]; omega) q2) (Ev.now _))
  · intro i hi _ hn
    have hn := hn trivial
    rw [map_take_succ flow _ i hi] at hn
    have hx := f2 _ (rd_mem hi)
    refine Ev.succ ?_
    simp only [impl_RootParts.l0]
    rw [w64n hi (by omega), w64 (x := 10000 * rd flow i) (by omega) (by omega)]
    exact Ev.pos (by omega) (Ev.pos (by omega) (Ev.pos (by omega) (Ev.bind (impl_root_ev (by omega)) (Ev.pos (by simp; omega) hn))))

theorem spec_RootParts_ev (flow : List Int) (room : Int) (h : flow.length ≤ 1048576) : Ev (fun k => spec_RootParts.f k flow room) (rootF flow room) := by
  unfold spec_RootParts.f rootF
  refine Ev.bind (spec_l5Room_evR flow room h) (Ev.ite (fun q => ?_) (fun q => by rw [if_neg q]; exact Ev.now _))
  rw [if_pos q]
  obtain ⟨q1, q2⟩ := (roomOk_iff _ _).mp q
  obtain ⟨f1, f2⟩ := (flowOk_iff flow).mp q1
  refine ev_up flow.length (fun k i => spec_RootParts.l0 k room ((flow.take i).map fun f => isq (10000 * f)) flow (flow.length : Int) (i : Int)) _ (fun _ => True) trivial ?_ ?_
  · intro _
    refine Ev.succ ?_
    simp only [spec_RootParts.l0]
    rw [List.take_length]
    exact Ev.neg (by omega) (Ev.bind (spec_l5Parts_ev (rootW flow) room (rootW_ok q1) (by simp [rootW]; omega) q2) (Ev.now _))
  · intro i hi _ hn
    have hn := hn trivial
    rw [map_take_succ flow _ i hi] at hn
    have hx := f2 _ (rd_mem hi)
    refine Ev.succ ?_
    simp only [spec_RootParts.l0]
    rw [w64n hi (by omega), w64 (x := 10000 * rd flow i) (by omega) (by omega)]
    exact Ev.pos (by omega) (Ev.pos (by omega) (Ev.pos (by omega) (Ev.bind (spec_l2Root_ev (by omega)) (Ev.pos (by simp; omega) hn))))

theorem impl_EqualParts_ev (flow : List Int) (room : Int) (h : flow.length ≤ 1048576) : Ev (fun k => impl_EqualParts.f k flow room) (equalF flow room) := by
  unfold impl_EqualParts.f equalF
  refine Ev.bind (impl_isRoom_evR flow room h) (Ev.ite (fun q => ?_) (fun q => by rw [if_neg q]; exact Ev.now _))
  rw [if_pos q]
  obtain ⟨q1, q2⟩ := (roomOk_iff _ _).mp q
  obtain ⟨f1, f2⟩ := (flowOk_iff flow).mp q1
  have d1 := Int.ediv_nonneg (show 0 ≤ room by omega) (show 0 ≤ (flow.length : Int) by omega)
  have d2 : room / (flow.length : Int) ≤ room := Int.ediv_le_self _ (by omega)
  refine ev_up flow.length (fun k i => impl_EqualParts.l0 k flow room (List.replicate i (room / flow.length)) (flow.length : Int) (i : Int)) _ (fun _ => True) trivial ?_ ?_
  · intro _
    refine Ev.succ ?_
    simp only [impl_EqualParts.l0]; exact Ev.neg (by omega) (Ev.now _)
  · intro i hi _ hn
    have hn := hn trivial
    rw [List.replicate_succ'] at hn
    refine Ev.succ ?_
    simp only [impl_EqualParts.l0]
    rw [w64n hi (by omega), Int.tdiv_eq_ediv_of_nonneg (by omega), w64 (x := room / (flow.length : Int)) (by omega) (by omega)]
    exact Ev.pos (by omega) (Ev.neg (by omega) (Ev.pos (by simp; omega) hn))

theorem spec_EqualParts_ev (flow : List Int) (room : Int) (h : flow.length ≤ 1048576) : Ev (fun k => spec_EqualParts.f k flow room) (equalF flow room) := by
  unfold spec_EqualParts.f equalF
  refine Ev.bind (spec_l5Room_evR flow room h) (Ev.ite (fun q => ?_) (fun q => by rw [if_neg q]; exact Ev.now _))
  rw [if_pos q]
  obtain ⟨q1, q2⟩ := (roomOk_iff _ _).mp q
  obtain ⟨f1, f2⟩ := (flowOk_iff flow).mp q1
  have d1 := Int.ediv_nonneg (show 0 ≤ room by omega) (show 0 ≤ (flow.length : Int) by omega)
  have d2 : room / (flow.length : Int) ≤ room := Int.ediv_le_self _ (by omega)
  refine ev_up flow.length (fun k i => spec_EqualParts.l0 k flow room (List.replicate i (room / flow.length)) (flow.length : Int) (i : Int)) _ (fun _ => True) trivial ?_ ?_
  · intro _
    refine Ev.succ ?_
    simp only [spec_EqualParts.l0]; exact Ev.neg (by omega) (Ev.now _)
  · intro i hi _ hn
    have hn := hn trivial
    rw [List.replicate_succ'] at hn
    refine Ev.succ ?_
    simp only [spec_EqualParts.l0]
    rw [w64n hi (by omega), Int.tdiv_eq_ediv_of_nonneg (by omega), w64 (x := room / (flow.length : Int)) (by omega) (by omega)]
    exact Ev.pos (by omega) (Ev.neg (by omega) (Ev.pos (by simp; omega) hn))

theorem impl_TimeParts_ev (flow : List Int) (room : Int) (h : flow.length ≤ 1048576) : Ev (fun k => impl_TimeParts.f k flow room) (timeF flow room) := by
  unfold impl_TimeParts.f timeF
  refine Ev.bind (impl_isRoom_evR flow room h) (Ev.ite (fun q => ?_) (fun q => by rw [if_neg q]; exact Ev.now _))
  rw [if_pos q]
  obtain ⟨q1, q2⟩ := (roomOk_iff _ _).mp q
  obtain ⟨f1, f2⟩ := (flowOk_iff flow).mp q1
  exact Ev.bind (impl_parted_ev flow room (fun x hx => by have := f2 x hx; omega) (by omega) q2) (Ev.now _)

theorem spec_TimeParts_ev (flow : List Int) (room : Int) (h : flow.length ≤ 1048576) : Ev (fun k => spec_TimeParts.f k flow room) (timeF flow room) := by
  unfold spec_TimeParts.f timeF
  refine Ev.bind (spec_l5Room_evR flow room h) (Ev.ite (fun q => ?_) (fun q => by rw [if_neg q]; exact Ev.now _))
  rw [if_pos q]
  obtain ⟨q1, q2⟩ := (roomOk_iff _ _).mp q
  obtain ⟨f1, f2⟩ := (flowOk_iff flow).mp q1
  exact Ev.bind (spec_l5Parts_ev flow room (fun x hx => by have := f2 x hx; omega) (by omega) q2) (Ev.now _)

def isD (D : Int) (x : Int × Int) (t : Int) : Prop := 1 ≤ x.2 ∧ x.1 * D = x.2 * t
theorem low_isD {D f c t : Int} (hc : 0 < c) (h : f * D = c * t) : isD D (lowNum f c, lowDen f c) t := by
  refine ⟨(low_den_pos f c hc).1, ?_⟩
  have x := low_cross f c hc
  dsimp only
  have e : lowNum f c * D * c = lowDen f c * t * c := by
    calc lowNum f c * D * c = (lowNum f c * c) * D := by rw [Int.mul_right_comm]
      _ = (f * lowDen f c) * D := by rw [x]
      _ = (f * D) * lowDen f c := by rw [Int.mul_right_comm]
      _ = (c * t) * lowDen f c := by rw [h]
      _ = lowDen f c * t * c := by rw [Int.mul_comm (c * t), Int.mul_comm c t, Int.mul_assoc]
  exact Int.eq_of_mul_eq_mul_right (by omega) e
theorem add_isD {x y : Int × Int} {D s t : Int} (hx : isD D x s) (hy : isD D y t) (ok : (addF x.1 x.2 y.1 y.2).2.2 = true) : isD D ((addF x.1 x.2 y.1 y.2).1, (addF x.1 x.2 y.1 y.2).2.1) (s + t) ∧ goodFrac (addF x.1 x.2 y.1 y.2).1 (addF x.1 x.2 y.1 y.2).2.1 = true := by
  obtain ⟨h1, h2, h3⟩ := addF_true ok
  refine ⟨?_, h2⟩
  rw [h3]
  have := hx.1
  have := hy.1
  refine low_isD (Int.mul_pos (by omega) (by omega)) ?_
  rw [Int.add_mul, Int.mul_add]
  congr 1
  · rw [Int.mul_right_comm, hx.2, Int.mul_right_comm]
  · rw [Int.mul_right_comm, hy.2, Int.mul_comm x.2 y.2, Int.mul_right_comm]
theorem sumF_isD {D : Int} (g : Nat → Int × Int) (t : Nat → Int) : ∀ (L : List Nat) (s : Int × Int) (T : Int), (∀ j ∈ L, isD D (g j) (t j)) → isD D s T → goodFrac s.1 s.2 = true → (sumF (L.map g) s).2.2 = true →
    isD D ((sumF (L.map g) s).1, (sumF (L.map g) s).2.1) (T + (L.map t).sum) ∧ goodFrac (sumF (L.map g) s).1 (sumF (L.map g) s).2.1 = true := by
  intro L
  induction L with
  | nil => intro s T _ hs hg _; simp only [sumF, List.map_nil, List.sum_nil, Int.add_zero]; exact ⟨hs, hg⟩
  | cons x l ih =>
    intro s T hl hs hg ok
    rw [List.map_cons, sumF] at ok
    rw [List.map_cons, sumF]
    split at ok
    case isTrue hh =>
      rw [if_pos hh]
      obtain ⟨h1, h2⟩ := add_isD hs (hl x (by simp)) hh
      have := ih _ _ (fun y hy => hl y (by simp [hy])) h1 h2 ok
      rw [List.map_cons, List.sum_cons, ← Int.add_assoc]; exact this
    case isFalse => simp at ok
theorem common (p : Nat → Int) (n : Nat) (h : ∀ i, i < n → 1 ≤ p i) : ∃ D : Int, 0 < D ∧ ∀ i, i < n → p i ∣ D := by
  induction n with
  | zero => exact ⟨1, by omega, fun i hi => by omega⟩
  | succ n ih =>
    obtain ⟨D, h0, h1⟩ := ih fun i hi => h i (by omega)
    have hn := h n (by omega)
    refine ⟨D * p n, Int.mul_pos h0 (by omega), fun i hi => ?_⟩
    rcases Nat.lt_or_ge i n with h2 | h2
    · exact Int.dvd_trans (h1 i h2) (Int.dvd_mul_right _ _)
    · rw [show i = n by omega]; exact Int.dvd_mul_left _ _
theorem fluid_least {flow parts : List Int} {p : Int} (h : fluidOk flow parts = true) (ok : (fluidF flow parts).2.2 = true) (hp : 1 ≤ p ∧ p ≤ 100) (hr : 8 ≤ parts.sum ∧ parts.sum ≤ 1000) :
    lessF (fluidF flow parts).1 (fluidF flow parts).2.1 (leastB flow parts.sum p).1 (leastB flow parts.sum p).2.1 = (false, true) := by
  obtain ⟨q, b1, b2, b3, b4, b5⟩ := fluidOk_rd h
  have ef : fluidF flow parts = sumF (ratioL flow parts) (0, 1) := by unfold fluidF; rw [if_pos h]
  rw [ef] at ok ⊢
  obtain ⟨D, hD, hdvd⟩ := common (fun (j : Nat) => rd parts j) flow.length (fun j hj => (b4 j hj).1)
  have hT : ∀ j : Nat, j < flow.length → rd flow j * D = rd parts j * (rd flow j * (D / rd parts j)) := fun j hj => by
    rw [Int.mul_left_comm, Int.mul_ediv_cancel' (hdvd j hj)]
  have v := sumF_isD (D := D) (fun (j : Nat) => (lowNum (rd flow j) (rd parts j), lowDen (rd flow j) (rd parts j))) (fun (j : Nat) => rd flow j * (D / rd parts j)) (List.range flow.length) (0, 1) 0 (fun j hj => by
      have hj := List.mem_range.mp hj
      exact low_isD (by have := b4 j hj; omega) (hT j hj)) ⟨by decide, by simp⟩ (by decide) ok
  rw [range_sum, Int.zero_add] at v
  obtain ⟨⟨v1, v2⟩, g1⟩ := v
  have el : leastB flow parts.sum p = _ := if_pos ⟨q, hr, hp⟩
  have g2 := least_good q hr hp
  have eA : rootsL flow p = sumTo (fun (j : Nat) => isq (rd flow j * p * p)) flow.length := by
    unfold rootsL
    rw [sum_eq_sumTo, List.length_map]
    exact sumTo_congr fun j hj => rd_map flow (fun f => isq (f * p * p)) j hj
  have eP : parts.sum = sumTo (fun (j : Nat) => rd parts j) flow.length := by rw [sum_eq_sumTo, b2]
  have c := cauchy (n := flow.length) (a := fun (j : Nat) => isq (rd flow j * p * p)) (t := fun (j : Nat) => rd flow j * (D / rd parts j)) (p := fun (j : Nat) => rd parts j) (s := p * p) (D := D) (Int.mul_nonneg (by omega) (by omega)) (by omega)
    (fun j hj => (flow_isq (b3 j hj) hp).1) (fun j hj => Int.mul_nonneg (by have := b3 j hj; omega) (Int.ediv_nonneg (by omega) (by have := b4 j hj; omega))) (fun j hj => by have := b4 j hj; omega) (fun j hj => by
      have hs := (isq_spec (flow_prod (b3 j hj) hp).1).2.1
      have := Int.mul_le_mul_of_nonneg_right hs (show 0 ≤ D by omega)
      refine Int.le_trans this (Int.le_of_eq ?_)
      rw [Int.mul_comm (rd flow j * (D / rd parts j)), ← hT j hj]
      ac_rfl)
  rw [← eA, ← eP] at c
  have c4 := c.2.2.2
  change ((sumF (ratioL flow parts) (0, 1)).1) * D = (sumF (ratioL flow parts) (0, 1)).2.1 * _ at v2
  change 1 ≤ (sumF (ratioL flow parts) (0, 1)).2.1 at v1
  change goodFrac (sumF (ratioL flow parts) (0, 1)).1 (sumF (ratioL flow parts) (0, 1)).2.1 = true at g1
  have hY : 0 < p * p * parts.sum := Int.mul_pos (Int.mul_pos (by omega) (by omega)) (by omega)
  have x := low_cross (rootsL flow p * rootsL flow p) (p * p * parts.sum) hY
  have xd := (low_den_pos (rootsL flow p * rootsL flow p) (p * p * parts.sum) hY).1
  have gl : goodFrac (lowNum (rootsL flow p * rootsL flow p) (p * p * parts.sum)) (lowDen (rootsL flow p * rootsL flow p) (p * p * parts.sum)) = true := by
    have := g2; simp only [goodB, bothGood, Bool.and_eq_true] at this; simp_all
  rw [el]
  dsimp only
  generalize (sumF (ratioL flow parts) (0, 1)).1 = c1 at *
  generalize (sumF (ratioL flow parts) (0, 1)).2.1 = c2 at *
  generalize sumTo (fun (j : Nat) => rd flow j * (D / rd parts j)) flow.length = T at *
  generalize rootsL flow p * rootsL flow p = X at *
  generalize parts.sum = R at *
  generalize p * p = s at *
  generalize lowNum X (s * R) = ln at *
  generalize lowDen X (s * R) = ld at *
  unfold lessF
  rw [if_pos ((bothGood_iff _ _ _ _).mpr ⟨g1, gl⟩)]
  rw [decide_eq_false]
  intro hlt
  have h1 : c1 * ld * (s * R) < ln * c2 * (s * R) := Int.mul_lt_mul_of_pos_right hlt hY
  have h2 : c1 * (s * R) * ld < X * c2 * ld := by
    have e1 : c1 * ld * (s * R) = c1 * (s * R) * ld := by ac_rfl
    have e2 : ln * c2 * (s * R) = X * c2 * ld := by
      calc ln * c2 * (s * R) = ln * (s * R) * c2 := by ac_rfl
        _ = X * ld * c2 := by rw [x]
        _ = X * c2 * ld := by ac_rfl
    rw [e1, e2] at h1; exact h1
  have h3 := Int.lt_of_mul_lt_mul_right h2 (by omega)
  have h4 : c1 * (s * R) * D < X * c2 * D := Int.mul_lt_mul_of_pos_right h3 hD
  have h5 : T * (s * R) * c2 < X * D * c2 := by
    have e1 : c1 * (s * R) * D = T * (s * R) * c2 := by
      calc c1 * (s * R) * D = c1 * D * (s * R) := by ac_rfl
        _ = c2 * T * (s * R) := by rw [v2]
        _ = T * (s * R) * c2 := by ac_rfl
    have e2 : X * c2 * D = X * D * c2 := by ac_rfl
    rw [e1, e2] at h4; exact h4
  have h6 := Int.lt_of_mul_lt_mul_right h5 (by omega)
  have e : T * (s * R) = s * (T * R) := by ac_rfl
  omega

theorem spec_DrawRootParts_ev (l : List Int) (hl : bytesOk l) : ∃ (flow : List Int) (room : Int), Ev (fun k => spec_DrawRootParts.f k l) (flow, room) ∧ flow.length ≤ 100 := by
  unfold spec_DrawRootParts.f spec_DrawEqualParts.f
  obtain ⟨flow, a1, s1, e1, h1, h2, h3⟩ := cur_flow l 0 0 hl (by omega)
  obtain ⟨room, a2, s2, e2, h4, h5⟩ := cur_room l a1 s1 hl (by omega)
  exact ⟨flow, room, Ev.bind (Ev.bind e1 (Ev.bind0 e2 (Ev.now _))) (Ev.now _), h1⟩

theorem drawFluid_j2 (l : List Int) (hl : bytesOk l) (flow parts : List Int) (b : Bool) (a s : Int) (ha : 0 ≤ a ∧ a ≤ 2000) (h : parts.length ≤ 100) (hb : b = true → 0 < parts.length) : ∃ r : List Int, Ev (fun k => spec_DrawFluidCost.j2 k flow parts b l a s) (flow, r) ∧ r.length ≤ 100 := by
  cases b with
  | false =>
    refine ⟨parts, Ev.succ ?_, h⟩
    simp only [spec_DrawFluidCost.j2]; exact Ev.neg (by simp) (Ev.now _)
  | true =>
    have h0 := hb rfl
    obtain ⟨p, a1, s1, e1, h1, h2, h3, h4⟩ := cur_pick l a s (parts.length : Int) hl (by omega)
    obtain ⟨m, a2, s2, e2, h5, h6⟩ := cur_among l a1 s1 [0, 1, 1000, 1001] hl (by omega) (by simp)
    refine ⟨_, Ev.succ ?_, (?_ : (parts.set p.toNat m).length ≤ 100)⟩
    · simp only [spec_DrawFluidCost.j2]
      exact Ev.pos trivial (Ev.bind0 e1 (Ev.bind0 e2 (Ev.pos h1 (Ev.pos (by dsimp only; omega) (Ev.now _)))))
    · rw [List.length_set]; exact h
theorem drawFluid_j1 (l : List Int) (hl : bytesOk l) (flow parts : List Int) (a s : Int) (ha : 0 ≤ a ∧ a ≤ 1900) (h : parts.length ≤ 100) : ∃ r : List Int, Ev (fun k => spec_DrawFluidCost.j1 k flow parts l a s) (flow, r) ∧ r.length ≤ 100 := by
  by_cases h0 : (parts.length : Int) > 0
  · obtain ⟨b, a1, s1, e1, h1⟩ := cur_one l a s 6 hl (by omega)
    obtain ⟨r, e2, h2⟩ := drawFluid_j2 l hl flow parts b a1 s1 (by omega) h (fun _ => by omega)
    refine ⟨r, Ev.succ ?_, h2⟩
    simp only [spec_DrawFluidCost.j1]; exact Ev.pos h0 (Ev.bind0 e1 e2)
  · obtain ⟨r, e2, h2⟩ := drawFluid_j2 l hl flow parts false a s (by omega) h (fun h => by simp at h)
    refine ⟨r, Ev.succ ?_, h2⟩
    simp only [spec_DrawFluidCost.j1]; exact Ev.neg h0 e2
theorem drawFluid_j0 (l : List Int) (hl : bytesOk l) (flow parts : List Int) (b : Bool) (a s : Int) (ha : 0 ≤ a ∧ a ≤ 1900) (hf : flow.length ≤ 100) (h : parts.length ≤ 100) : ∃ r : List Int, Ev (fun k => spec_DrawFluidCost.j0 k flow parts b l a s) (flow, r) ∧ r.length ≤ 100 := by
  cases b with
  | true =>
    obtain ⟨r, e2, h2⟩ := drawFluid_j1 l hl flow (equalF flow 100).1 a s ha (by unfold equalF; split <;> simp <;> omega)
    refine ⟨r, Ev.succ ?_, h2⟩
    simp only [spec_DrawFluidCost.j0]; exact Ev.pos trivial (Ev.bind (spec_EqualParts_ev flow 100 (by omega)) e2)
  | false =>
    obtain ⟨r, e2, h2⟩ := drawFluid_j1 l hl flow parts a s ha h
    refine ⟨r, Ev.succ ?_, h2⟩
    simp only [spec_DrawFluidCost.j0]; exact Ev.neg (by simp) e2
theorem spec_DrawFluidCost_ev (l : List Int) (hl : bytesOk l) : ∃ flow parts : List Int, Ev (fun k => spec_DrawFluidCost.f k l) (flow, parts) ∧ flow.length ≤ 100 ∧ parts.length ≤ 100 := by
  unfold spec_DrawFluidCost.f
  obtain ⟨flow, a1, s1, e1, h1, h2, h3⟩ := cur_flow l 0 0 hl (by omega)
  obtain ⟨room, a2, s2, e2, h4, h5⟩ := cur_room l a1 s1 hl (by omega)
  have e3 := spec_RootParts_ev flow room (by omega)
  have hl3 : (rootF flow room).1.length ≤ 100 := by unfold rootF; split <;> simp [partsOf, rootW]; omega
  by_cases hb : (rootF flow room).2 = true
  · obtain ⟨b, a3, s3, e4, h6⟩ := cur_one l a2 s2 3 hl (by omega)
    obtain ⟨r, e5, h7⟩ := drawFluid_j0 l hl flow (rootF flow room).1 b a3 s3 (by omega) h1 hl3
    exact ⟨flow, r, Ev.bind e1 (Ev.bind0 e2 (Ev.bind e3 (Ev.pos hb (Ev.bind0 e4 e5)))), h1, h7⟩
  · obtain ⟨r, e5, h7⟩ := drawFluid_j0 l hl flow (rootF flow room).1 true a2 s2 (by omega) h1 hl3
    exact ⟨flow, r, Ev.bind e1 (Ev.bind0 e2 (Ev.bind e3 (Ev.neg hb e5))), h1, h7⟩

theorem fluid_parts {flow : List Int} {room : Int} (h : roomOk flow room = true) : Ev (fun k => laws_FnFluid.j2 k flow room (partsOf (rootW flow) room) true (List.replicate flow.length (room / flow.length)) (partsOf flow room) false) true := by
  obtain ⟨q1, q2⟩ := (roomOk_iff _ _).mp h
  obtain ⟨f1, f2⟩ := (flowOk_iff flow).mp q1
  have w1 := weights (rootW_ok q1) (by simp [rootW]; omega)
  have w2 := weights (l := flow) (fun x hx => by have := f2 x hx; omega) f1.1
  have lr : (partsOf (rootW flow) room).length = flow.length := by simp [partsOf, rootW]
  have lt : (partsOf flow room).length = flow.length := by simp [partsOf]
  have le : (List.replicate flow.length (room / (flow.length : Int))).length = flow.length := by simp
  have fr : ∀ j : Nat, j < flow.length → 1 ≤ rd flow j ∧ rd flow j ≤ 30 := fun j hj => f2 _ (rd_mem hj)
  have rr : ∀ j : Nat, j < flow.length → rd (partsOf (rootW flow) room) j = part1 room (rootW flow).sum (isq (10000 * rd flow j)) := fun j hj => by
    unfold partsOf
    rw [rd_map _ _ j (by simpa [rootW] using hj)]
    unfold rootW
    rw [rd_map _ _ j hj]
  have rt : ∀ j : Nat, j < flow.length → rd (partsOf flow room) j = part1 room flow.sum (rd flow j) := fun j hj => by
    unfold partsOf; rw [rd_map _ _ j hj]
  have re : ∀ j : Nat, j < flow.length → rd (List.replicate flow.length (room / (flow.length : Int))) j = room / flow.length := fun j hj => by
    rw [rd_nat _ j (by simpa using hj)]; simp
  have iq : ∀ j : Nat, j < flow.length → 0 ≤ isq (10000 * rd flow j) := fun j hj => (isq_spec (by have := fr j hj; omega)).1
  have p1 : ∀ j : Nat, j < flow.length → 1 ≤ rd (partsOf (rootW flow) room) j := fun j hj => by rw [rr j hj]; exact part1_pos (by omega) (by omega) (iq j hj)
  have p2 : ∀ j : Nat, j < flow.length → 1 ≤ rd (partsOf flow room) j := fun j hj => by rw [rt j hj]; exact part1_pos (by omega) (by omega) (by have := fr j hj; omega)
  have m1 : ∀ i j : Nat, i < flow.length → j < flow.length → rd flow i < rd flow j → rd (partsOf (rootW flow) room) i ≤ rd (partsOf (rootW flow) room) j := fun i j hi hj hh => by
    rw [rr i hi, rr j hj]
    exact part1_mono (by omega) (by omega) (iq i hi) (isq_mono (by have := fr i hi; omega) (by omega))
  have m2 : ∀ i j : Nat, i < flow.length → j < flow.length → rd flow i < rd flow j → rd (partsOf flow room) i ≤ rd (partsOf flow room) j := fun i j hi hj hh => by
    rw [rt i hi, rt j hj]
    exact part1_mono (by omega) (by omega) (by have := fr i hi; omega) (by omega)
  have d1 := Int.ediv_nonneg (show 0 ≤ room by omega) (show 0 ≤ (flow.length : Int) by omega)
  have d2 : room / (flow.length : Int) ≤ room := Int.ediv_le_self _ (by omega)
  have d3 : (flow.length : Int) * (room / (flow.length : Int)) ≤ room := Int.mul_ediv_self_le (by omega)
  generalize hR : partsOf (rootW flow) room = R at *
  generalize hT : partsOf flow room = T at *
  refine Ev.succ ?_
  simp only [laws_FnFluid.j2]
  refine Ev.neg (by simp) (Ev.pos trivial ?_)
  refine ev_up flow.length (fun k i => laws_FnFluid.l0 k flow room R (List.replicate flow.length (room / (flow.length : Int))) T (flow.length : Int) (i : Int)) _ (fun _ => True) trivial ?_ ?_
  · intro _
    refine Ev.succ ?_
    simp only [laws_FnFluid.l0]
    refine Ev.neg (by omega) (Ev.pos (by omega) ?_)
    have hs := sum_bounds (List.replicate flow.length (room / (flow.length : Int))) (room / (flow.length : Int)) (room / (flow.length : Int)) (fun x hx => by have := (List.mem_replicate.mp hx).2; omega)
    rw [le, Int.mul_comm] at hs
    exact Ev.bind (laws_sumOf_ev _ 0 1000 (fun x hx => by have := (List.mem_replicate.mp hx).2; omega) (by omega) (by omega) (by omega)) (Ev.neg (by omega) (Ev.now _))
  · intro i hi _ hn
    have hn := hn trivial
    refine Ev.succ ?_
    simp only [laws_FnFluid.l0]
    refine Ev.pos (by omega) ?_
    refine ev_up flow.length (fun k j => laws_FnFluid.l1 k flow room R (List.replicate flow.length (room / (flow.length : Int))) T (i : Int) (flow.length : Int) (i : Int) (flow.length : Int) (j : Int)) _ (fun _ => True) trivial ?_ ?_
    · intro _
      refine Ev.succ ?_
      simp only [laws_FnFluid.l1]
      rw [w64n hi (by omega)]
      exact Ev.neg (by omega) hn
    · intro j hj _ hn2
      have hn2 := hn2 trivial
      have a1 := p1 i hi
      have a2 := p2 i hi
      have e1 := re i hi
      have e2 := re j hj
      refine Ev.succ ?_
      simp only [laws_FnFluid.l1]
      rw [w64n hj (by omega)]
      refine Ev.pos (by omega) (Ev.pos (by omega) (Ev.pos (by omega) (Ev.pos (by omega) (Ev.pos (by omega) (Ev.ite (fun hlt => ?_) (fun _ => ?_))))))
      · have b1 := m1 i j hi hj hlt
        have b2 := m2 i j hi hj hlt
        exact Ev.pos (by omega) (Ev.pos (by omega) (Ev.neg (by omega) (Ev.pos (by omega) (Ev.pos (by omega) (Ev.neg (by omega) (Ev.pos (by omega) (Ev.pos (by omega) (Ev.pos (by omega) (Ev.neg (by omega) (Ev.neg (by omega) hn2))))))))))
      · exact Ev.pos (by omega) (Ev.pos (by omega) (Ev.pos (by omega) (Ev.pos (by omega) (Ev.neg (by omega) (Ev.pos (by omega) (Ev.neg (by omega) hn2))))))
theorem fluid_j1 (l : List Int) (hl : bytesOk l) : Ev (fun k => laws_FnFluid.j1 k l) true := by
  refine Ev.succ ?_
  simp only [laws_FnFluid.j1]
  obtain ⟨flow, room, e, h1⟩ := spec_DrawRootParts_ev l hl
  refine Ev.bind e (Ev.bind (impl_RootParts_ev flow room (by omega)) (Ev.bind (spec_RootParts_ev flow room (by omega)) (Ev.bind (impl_EqualParts_ev flow room (by omega)) (Ev.bind (spec_EqualParts_ev flow room (by omega)) (Ev.bind (impl_TimeParts_ev flow room (by omega)) (Ev.bind (spec_TimeParts_ev flow room (by omega)) ?_))))))
  have l1 : (rootF flow room).1.length ≤ 100 := by unfold rootF; split <;> simp [partsOf, rootW]; omega
  have l2 : (equalF flow room).1.length ≤ 100 := by unfold equalF; split <;> simp; omega
  have l3 : (timeF flow room).1.length ≤ 100 := by unfold timeF; split <;> simp [partsOf]; omega
  refine Ev.neg (by simp) (Ev.bind (Ev.to (laws_sameInts_ev _ _ (by omega)) (decide_eq_true rfl)) (Ev.pos rfl (Ev.neg (by simp) (Ev.bind (Ev.to (laws_sameInts_ev _ _ (by omega)) (decide_eq_true rfl)) (Ev.pos rfl (Ev.neg (by simp) (Ev.bind (Ev.to (laws_sameInts_ev _ _ (by omega)) (decide_eq_true rfl)) ?_)))))))
  by_cases h : roomOk flow room = true
  · have e1 : rootF flow room = (partsOf (rootW flow) room, true) := if_pos h
    have e2 : equalF flow room = (List.replicate flow.length (room / flow.length), true) := if_pos h
    have e3 : timeF flow room = (partsOf flow room, true) := if_pos h
    rw [e1, e2, e3]; exact fluid_parts h
  · have e1 : rootF flow room = ([], false) := if_neg h
    rw [e1]
    refine Ev.succ ?_
    simp only [laws_FnFluid.j2]
    exact Ev.neg (by simp) (Ev.neg (by simp) (Ev.now _))
theorem FnFluid : laws_FnFluid.Pure := by
  intro l0 l1 _ hl0 hw0 _ hl1 hw1
  have b0 := bytesOk_of l0 hw0
  have b1 := bytesOk_of l1 hw1
  refine Ev.rounds (g := fun k => laws_FnFluid.f k l0 l1) ?_
  unfold laws_FnFluid.f
  refine Ev.ite (fun _ => Ev.now _) fun hlen => ?_
  rw [w64 (by rw [maxLen_le] at *; omega) (by rw [maxLen_le] at *; omega)] at hlen
  obtain ⟨flow, parts, e, h1, h2⟩ := spec_DrawFluidCost_ev l0 b0
  refine Ev.bind e (Ev.bind (impl_FluidCost_ev flow parts (by omega) (by omega)) (Ev.bind (spec_FluidCost_ev flow parts (by omega) (by omega)) ?_))
  simp only [bne_self_eq_false, beq_self_eq_true, Bool.not_true, Bool.or_self, Bool.false_eq_true, if_false]
  have hj1 := fluid_j1 l1 b1
  refine Ev.succ ?_
  simp only [laws_FnFluid.j0, Bool.false_eq_true, if_false]
  refine Ev.ite (fun ok => ?_) (fun _ => hj1)
  have hk : fluidOk flow parts = true := by
    unfold fluidF at ok; split at ok
    case isTrue hh => exact hh
    case isFalse => simp at ok
  obtain ⟨q, c1, c2, c3, c4, c5⟩ := fluidOk_rd hk
  obtain ⟨t, et, t0, t1⟩ := laws_numberOf_ev l1 b1 (by omega)
  have hm : 0 ≤ Int.tmod t 10 ∧ Int.tmod t 10 < 10 := by rw [Int.tmod_eq_emod_of_nonneg t0]; omega
  refine Ev.bind (laws_sumOf_ev parts 1 1000 c5 (by omega) (by omega) (by omega)) (Ev.bind et ?_)
  rw [w64 (x := 1 + Int.tmod t 10) (by omega) (by omega)]
  refine Ev.bind (impl_LeastCost_ev flow parts.sum (1 + Int.tmod t 10) (by omega)) (Ev.ite (fun ok2 => ?_) (fun _ => hj1))
  have hr : 8 ≤ parts.sum ∧ parts.sum ≤ 1000 := by
    unfold leastB at ok2; split at ok2
    case isTrue hh => exact hh.2.1
    case isFalse => simp at ok2
  exact Ev.bind (Ev.to (impl_LessFrac_ev _ _ _ _) (fluid_least hk ok (by omega) hr)) (Ev.pos rfl (Ev.neg (by simp) hj1))
end Go.Proofs.Ytpagpbamdpllnaa.Pure
