/- Counts cost least just if no place is better used by another kind, for drawn counts: no condition but the statement's own. -/
import Derived.Test.YthonbjmjhegpdaaCFnStable0
import Derived.Test.YthonbjmjhegpdaaCFnStable1
import Derived.Test.YthonbjmjhegpdaaCFnStable2
import Derived.Test.YthonbjmjhegpdaaCFnStable4
import Derived.Test.YthonbjmjhegpdaaCFnStable3
set_option linter.unusedVariables false
set_option linter.unusedSimpArgs false
namespace Go.Proofs.Ythonbjmjhegpdaa.Pure
open Go.RowKit Go.Proofs.Ythonbjmjhegpdaa.Print Go.Proofs.YthonbjmjhegpdaaW.PrintWords Go.Proofs.YthonbjmjhegpdaaW.PrintLast Go.Proofs.YthonbjmjhegpdaaW.PrintMore

theorem spec_l1In_eq (n lo hi : Int) : spec_l1In.f n lo hi = some (decide (lo ≤ n) && decide (n ≤ hi)) := by
  unfold spec_l1In.f
  by_cases h : n ≥ lo
  · rw [if_pos h, decide_eq_true (show lo ≤ n from h)]; simp
  · rw [if_neg h, decide_eq_false (show ¬ lo ≤ n from h)]; simp

theorem impl_within_eq (n lo hi : Int) : impl_within.f n lo hi = some (decide (lo ≤ n) && decide (n ≤ hi)) := by
  unfold impl_within.f
  by_cases h : n ≥ lo
  · rw [if_pos h, decide_eq_true (show lo ≤ n from h)]; simp
  · rw [if_neg h, decide_eq_false (show ¬ lo ≤ n from h)]; simp

theorem spec_l1All_ev (l : List Int) (lo hi : Int) (hl : l.length < 4611686018427387904) : Ev (fun k => spec_l1All.f k l lo hi) (allIn l lo hi) := by
  unfold spec_l1All.f
  refine ev_up l.length (fun k i => spec_l1All.l0 k lo hi l (l.length : Int) (i : Int)) _ (fun i => allIn (l.take i) lo hi = true) (by simp [allIn]) ?_ ?_
  · intro hI
    refine Ev.step0 (Ev.of_eq fun _ => rfl) fun k => ?_
    simp only [spec_l1All.l0]; rw [if_neg (by omega)]
    rw [List.take_length] at hI; rw [hI]
  · intro i hi' hI hn
    cases hb : (decide (lo ≤ l[i]) && decide (l[i] ≤ hi)) with
    | true =>
      refine Ev.step0 (hn (all_take_succ l _ i hi' hI hb)) fun k => ?_
      simp only [spec_l1All.l0]; rw [if_pos (lt_len hi'), if_pos (by omega), if_pos (lt_len hi'), rd_nat l i hi', spec_l1In_eq, hb]
      simp only [Option.bind_some, if_true]; rw [w64 (by omega) (by omega)]; rfl
    | false =>
      refine Ev.step0 (Ev.of_eq fun _ => rfl) fun k => ?_
      simp only [spec_l1All.l0]; rw [if_pos (lt_len hi'), if_pos (by omega), if_pos (lt_len hi'), rd_nat l i hi', spec_l1In_eq, hb]
      simp only [Option.bind_some]; rw [if_neg (by decide)]
      rw [show allIn l lo hi = false from all_take_false l _ i hi' hb]

theorem impl_allWithin_ev (l : List Int) (lo hi : Int) (hl : l.length < 4611686018427387904) : Ev (fun k => impl_allWithin.f k l lo hi) (allIn l lo hi) := by
  unfold impl_allWithin.f sl1_ContainsFunc.f sl3_IndexFunc.f
  have key : ∃ j : Int, decide (j ≥ 0) = !(allIn l lo hi) ∧ Ev (fun k => sl3_IndexFunc.l0 k l (l.length : Int) 0 lo hi) j := by
    have hc : ∀ x : Int, impl_allWithin_1.f x lo hi = some (!(decide (lo ≤ x) && decide (x ≤ hi))) := fun x => by
      unfold impl_allWithin_1.f; rw [impl_within_eq]; rfl
    cases ha : allIn l lo hi with
    | true =>
      refine ⟨-1, by decide, ?_⟩
      refine ev_up l.length (fun k i => sl3_IndexFunc.l0 k l (l.length : Int) (i : Int) lo hi) _ (fun _ => True) trivial ?_ ?_
      · intro _
        refine Ev.step0 (Ev.of_eq fun _ => rfl) fun k => ?_
        simp only [sl3_IndexFunc.l0]; rw [if_neg (by omega)]
      · intro i hi' _ hn
        have hb := (allIn_iff l lo hi).mp ha l[i] (List.getElem_mem hi')
        refine Ev.step0 (hn trivial) fun k => ?_
        simp only [sl3_IndexFunc.l0]; rw [if_pos (lt_len hi'), if_pos (by omega), if_pos (lt_len hi'), rd_nat l i hi', hc, decide_eq_true hb.1, decide_eq_true hb.2]
        simp only [Option.bind_some]; rw [if_neg (by decide), w64 (by omega) (by omega)]; rfl
    | false =>
      have : ∃ i : Nat, i < l.length ∧ Ev (fun k => sl3_IndexFunc.l0 k l (l.length : Int) 0 lo hi) (i : Int) := by
        obtain ⟨i, hi', hp, hlt⟩ : ∃ i : Nat, ∃ h : i < l.length, (decide (lo ≤ l[i]) && decide (l[i] ≤ hi)) = false ∧ ∀ j, ∀ hj : j < i, (decide (lo ≤ l[j]) && decide (l[j] ≤ hi)) = true := by
          have h1 : ∃ i : Nat, ∃ h : i < l.length, (decide (lo ≤ l[i]) && decide (l[i] ≤ hi)) = false := by
            unfold allIn at ha
            rw [List.all_eq_false] at ha
            obtain ⟨x, hx, hp⟩ := ha
            obtain ⟨i, hi', rfl⟩ := List.getElem_of_mem hx
            exact ⟨i, hi', by simpa using hp⟩
          obtain ⟨m, hm, hmin⟩ := exists_least h1
          obtain ⟨hm1, hm2⟩ := hm
          refine ⟨m, hm1, hm2, fun j hj => ?_⟩
          cases hq : (decide (lo ≤ l[j]) && decide (l[j] ≤ hi)) with
          | true => rfl
          | false => have := hmin j ⟨by omega, hq⟩; omega
        refine ⟨i, hi', ?_⟩
        refine ev_up i (fun k i => sl3_IndexFunc.l0 k l (l.length : Int) (i : Int) lo hi) _ (fun _ => True) trivial ?_ ?_
        · intro _
          refine Ev.step0 (Ev.of_eq fun _ => rfl) fun k => ?_
          simp only [sl3_IndexFunc.l0]; rw [if_pos (lt_len hi'), if_pos (by omega), if_pos (lt_len hi'), rd_nat l i hi', hc, hp]
          simp
        · intro j hj _ hn
          have hj' : j < l.length := by omega
          refine Ev.step0 (hn trivial) fun k => ?_
          simp only [sl3_IndexFunc.l0]; rw [if_pos (lt_len hj'), if_pos (by omega), if_pos (lt_len hj'), rd_nat l j hj', hc, hlt j hj]
          simp only [Option.bind_some]; rw [if_neg (by decide), w64 (by omega) (by omega)]; rfl
      obtain ⟨i, _, hi2⟩ := this
      exact ⟨i, by simp, hi2⟩
  obtain ⟨j, hj, hev⟩ := key
  refine Ev.to (Ev.bind (Ev.bind hev (Ev.now _)) (Ev.now _)) ?_
  rw [hj]; simp

theorem spec_l3Sum_ev (l : List Int) (lo hi : Int) (h : ∀ x ∈ l, lo ≤ x ∧ x ≤ hi) (hlo : -1048576 ≤ lo) (hhi : hi ≤ 1073741824) (hl : l.length ≤ 1048576) : Ev (fun k => spec_l3Sum.f k l) l.sum := by
  unfold spec_l3Sum.f
  refine ev_up l.length (fun k i => spec_l3Sum.l0 k (l.take i).sum l (l.length : Int) (i : Int)) _ (fun _ => True) trivial ?_ ?_
  · intro _
    refine Ev.step0 (Ev.of_eq fun _ => rfl) fun k => ?_
    simp only [spec_l3Sum.l0]; rw [if_neg (by omega), List.take_length]
  · intro i hi' _ hn
    have hs := sum_take_succ l i hi'
    have hb := sum_bounds (l.take (i + 1)) (-1048576) 1073741824 fun x hx => by have := h x (List.mem_of_mem_take hx); omega
    have hlen : (l.take (i + 1)).length ≤ 1048576 := by rw [List.length_take]; omega
    refine Ev.step0 (hn trivial) fun k => ?_
    simp only [spec_l3Sum.l0]; rw [if_pos (lt_len hi'), if_pos (by omega), if_pos (lt_len hi'), rd_nat l i hi', ← hs, w64 (by omega) (by omega), w64 (by omega) (by omega)]; rfl

theorem impl_sum_ev (l : List Int) (lo hi : Int) (h : ∀ x ∈ l, lo ≤ x ∧ x ≤ hi) (hlo : -1048576 ≤ lo) (hhi : hi ≤ 1073741824) (hl : l.length ≤ 1048576) : Ev (fun k => impl_sum.f k l) l.sum := by
  unfold impl_sum.f
  refine ev_up l.length (fun k i => impl_sum.l0 k (l.take i).sum l (l.length : Int) (i : Int)) _ (fun _ => True) trivial ?_ ?_
  · intro _
    refine Ev.step0 (Ev.of_eq fun _ => rfl) fun k => ?_
    simp only [impl_sum.l0]; rw [if_neg (by omega), List.take_length]
  · intro i hi' _ hn
    have hs := sum_take_succ l i hi'
    have hb := sum_bounds (l.take (i + 1)) (-1048576) 1073741824 fun x hx => by have := h x (List.mem_of_mem_take hx); omega
    have hlen : (l.take (i + 1)).length ≤ 1048576 := by rw [List.length_take]; omega
    refine Ev.step0 (hn trivial) fun k => ?_
    simp only [impl_sum.l0]; rw [if_pos (lt_len hi'), if_pos (by omega), if_pos (lt_len hi'), rd_nat l i hi', ← hs, w64 (by omega) (by omega), w64 (by omega) (by omega)]; rfl

theorem natAbs_tmod (a b : Int) : (Int.tmod a b).natAbs = a.natAbs % b.natAbs := by
  rw [Int.natAbs_tmod]
theorem tmod_bounds (a b : Int) (hb : b ≠ 0) : -(b.natAbs : Int) < Int.tmod a b ∧ Int.tmod a b < b.natAbs := by
  have h := natAbs_tmod a b
  have h2 : a.natAbs % b.natAbs < b.natAbs := Nat.mod_lt _ (Int.natAbs_pos.mpr hb)
  omega
theorem gcd_step (a b : Int) : Int.gcd b (Int.tmod a b) = Int.gcd a b := by
  unfold Int.gcd
  rw [natAbs_tmod, Nat.gcd_comm b.natAbs, ← Nat.gcd_rec, Nat.gcd_comm]
theorem gcd_le (a b m : Int) (h : a ≠ 0 ∨ b ≠ 0) (ha : -m ≤ a ∧ a ≤ m) (hb : -m ≤ b ∧ b ≤ m) : 1 ≤ (Int.gcd a b : Int) ∧ (Int.gcd a b : Int) ≤ m := by
  have hpos : 0 < Int.gcd a b := by
    rcases Nat.eq_zero_or_pos (Int.gcd a b) with h0 | h0
    · rw [Int.gcd_eq_zero_iff] at h0; omega
    · exact h0
  refine ⟨by omega, ?_⟩
  rcases h with h | h
  · have := Nat.le_of_dvd (Int.natAbs_pos.mpr h) (Int.gcd_dvd_natAbs_left a b); omega
  · have := Nat.le_of_dvd (Int.natAbs_pos.mpr h) (Int.gcd_dvd_natAbs_right a b); omega

theorem spec_l1Abs_eq (a : Int) (h : -9223372036854775808 < a ∧ a < 9223372036854775808) : spec_l1Abs.f a = some (a.natAbs : Int) := by
  unfold spec_l1Abs.f
  by_cases h0 : a < 0
  · rw [if_pos h0, w64 (by omega) (by omega)]; congr 1; omega
  · rw [if_neg h0]; congr 1; omega
theorem spec_l1Gcd_ev (a b : Int) (ha : -9223372036854775808 < a ∧ a < 9223372036854775808) (hb : -9223372036854775808 < b ∧ b < 9223372036854775808) : Ev (fun k => spec_l1Gcd.f k a b) (Int.gcd a b : Int) := by
  unfold spec_l1Gcd.f
  refine Ev.bind0 (spec_l1Abs_eq a ha) (Ev.bind0 (spec_l1Abs_eq b hb) ?_)
  have key : ∀ (n m : Nat), Ev (fun k => spec_l1Gcd.l0 k (m : Int) (n : Int)) (Nat.gcd m n : Int) := by
    intro n
    induction n using Nat.strongRecOn with
    | _ n ih =>
      intro m
      rcases Nat.eq_zero_or_pos n with h0 | h0
      · subst h0
        refine Ev.step0 (Ev.of_eq fun _ => rfl) fun k => ?_
        simp only [spec_l1Gcd.l0]; rw [if_neg (by omega)]; simp
      · have h1 := ih (m % n) (Nat.mod_lt _ h0) n
        refine Ev.to (Ev.step0 h1 fun k => ?_) ?_
        · simp only [spec_l1Gcd.l0]; rw [if_pos (by omega), if_neg (by omega)]; rfl
        · rw [Nat.gcd_comm n, ← Nat.gcd_rec, Nat.gcd_comm]
  exact key b.natAbs a.natAbs

theorem mx_abs (a : Int) (h : -9223372036854775808 < a ∧ a < 9223372036854775808) : mx a (wrap64 (-a)) = (a.natAbs : Int) := by
  rw [w64 (by omega) (by omega)]; unfold mx; split <;> omega
theorem impl_divisor_ev (a b : Int) (ha : -9223372036854775808 < a ∧ a < 9223372036854775808) (hb : -9223372036854775808 < b ∧ b < 9223372036854775808) : Ev (fun k => impl_divisor.f k a b) (Int.gcd a b : Int) := by
  unfold impl_divisor.f
  have key : ∀ (n : Nat) (a b : Int), b.natAbs = n → (-9223372036854775808 < a ∧ a < 9223372036854775808) → (-9223372036854775808 < b ∧ b < 9223372036854775808) → Ev (fun k => impl_divisor.l0 k a b) (Int.gcd a b : Int) := by
    intro n
    induction n using Nat.strongRecOn with
    | _ n ih =>
      intro a b hn ha hb
      by_cases h0 : b = 0
      · subst h0
        refine Ev.step0 (Ev.of_eq fun _ => rfl) fun k => ?_
        simp only [impl_divisor.l0]; rw [if_true, mx_abs a ha]; simp
      · have hm := tmod_bounds a b h0
        have h1 := ih (Int.tmod a b).natAbs (by omega) b (Int.tmod a b) rfl hb (by omega)
        refine Ev.to (Ev.step0 h1 fun k => ?_) (by rw [gcd_step])
        simp only [impl_divisor.l0]; rw [if_neg h0]
  exact key _ a b rfl ha hb

def lowNum (a b : Int) : Int := if b < 0 then Int.tdiv (-a) (Int.gcd a b) else Int.tdiv a (Int.gcd a b)
def lowDen (a b : Int) : Int := if b < 0 then Int.tdiv (-b) (Int.gcd a b) else Int.tdiv b (Int.gcd a b)
theorem tdiv_small (a g m : Int) (hg : 1 ≤ g) (h : -m ≤ a ∧ a ≤ m) : -m ≤ Int.tdiv a g ∧ Int.tdiv a g ≤ m := by
  have h1 : (Int.tdiv a g).natAbs ≤ a.natAbs := by
    rw [Int.natAbs_tdiv]; exact Nat.div_le_self _ _
  omega

theorem spec_l1Make_ev (a b : Int) (ha : -9223372036854775808 < a ∧ a < 9223372036854775808) (hb : -9223372036854775808 < b ∧ b < 9223372036854775808) (h0 : b ≠ 0) : Ev (fun k => spec_l1Make.f k a b) (lowNum a b, lowDen a b) := by
  unfold spec_l1Make.f lowNum lowDen
  have hg := gcd_le a b 9223372036854775807 (.inr h0) (by omega) (by omega)
  refine Ev.ite (fun h => ?_) (fun h => ?_)
  · rw [if_pos h, if_pos h, w64 (x := -a) (by omega) (by omega), w64 (x := -b) (by omega) (by omega)]
    have e : Int.gcd (-a) (-b) = Int.gcd a b := by simp [Int.gcd]
    refine Ev.bind (Ev.to (spec_l1Gcd_ev (-a) (-b) (by omega) (by omega)) (by rw [e])) (Ev.neg (by omega) (Ev.of_eq fun _ => ?_))
    have h1 := tdiv_small (-a) (Int.gcd a b) 9223372036854775807 hg.1 (by omega)
    have h2 := tdiv_small (-b) (Int.gcd a b) 9223372036854775807 hg.1 (by omega)
    rw [w64 (by omega) (by omega), w64 (by omega) (by omega)]
  · rw [if_neg h, if_neg h]
    refine Ev.bind (spec_l1Gcd_ev a b ha hb) (Ev.neg (by omega) (Ev.of_eq fun _ => ?_))
    have h1 := tdiv_small a (Int.gcd a b) 9223372036854775807 hg.1 (by omega)
    have h2 := tdiv_small b (Int.gcd a b) 9223372036854775807 hg.1 (by omega)
    rw [w64 (by omega) (by omega), w64 (by omega) (by omega)]

def goodFrac (a b : Int) : Bool := decide (-1000000000 ≤ a) && decide (a ≤ 1000000000) && (decide (1 ≤ b) && decide (b ≤ 1000000000)) && decide (Int.gcd a b = 1)
theorem goodFrac_iff (a b : Int) : goodFrac a b = true ↔ (-1000000000 ≤ a ∧ a ≤ 1000000000) ∧ (1 ≤ b ∧ b ≤ 1000000000) ∧ Int.gcd a b = 1 := by
  simp [goodFrac, and_assoc]

theorem impl_GoodFrac_ev (a b : Int) : Ev (fun k => impl_GoodFrac.f k a b) (goodFrac a b) := by
  unfold impl_GoodFrac.f goodFrac
  refine Ev.bind0 (impl_within_eq _ _ _) ?_
  by_cases h1 : -1000000000 ≤ a ∧ a ≤ 1000000000
  · rw [decide_eq_true h1.1, decide_eq_true h1.2]
    refine Ev.pos rfl (Ev.bind0 (impl_within_eq _ _ _) ?_)
    by_cases h2 : 1 ≤ b ∧ b ≤ 1000000000
    · rw [decide_eq_true h2.1, decide_eq_true h2.2]
      refine Ev.pos rfl (Ev.to (Ev.bind (impl_divisor_ev a b (by omega) (by omega)) (Ev.now _)) ?_)
      simp only [Bool.and_self, Bool.true_and]
      rw [Bool.eq_iff_iff]; simp; omega
    · refine Ev.neg (by simpa using fun h => by omega) (Ev.of_eq fun _ => ?_)
      have : (decide (1 ≤ b) && decide (b ≤ 1000000000)) = false := by simpa using fun h => by omega
      rw [this]; simp
  · refine Ev.neg (by simpa using fun h => by omega) (Ev.of_eq fun _ => ?_)
    have : (decide (-1000000000 ≤ a) && decide (a ≤ 1000000000)) = false := by simpa using fun h => by omega
    rw [this]; simp

theorem spec_GoodFrac_ev (a b : Int) : Ev (fun k => spec_GoodFrac.f k a b) (goodFrac a b) := by
  unfold spec_GoodFrac.f goodFrac
  refine Ev.bind0 (spec_l1In_eq _ _ _) ?_
  by_cases h1 : -1000000000 ≤ a ∧ a ≤ 1000000000
  · rw [decide_eq_true h1.1, decide_eq_true h1.2]
    refine Ev.pos rfl (Ev.bind0 (spec_l1In_eq _ _ _) ?_)
    by_cases h2 : 1 ≤ b ∧ b ≤ 1000000000
    · rw [decide_eq_true h2.1, decide_eq_true h2.2]
      refine Ev.pos rfl (Ev.to (Ev.bind (spec_l1Gcd_ev a b (by omega) (by omega)) (Ev.now _)) ?_)
      simp only [Bool.and_self, Bool.true_and]
      rw [Bool.eq_iff_iff]; simp; omega
    · refine Ev.neg (by simpa using fun h => by omega) (Ev.of_eq fun _ => ?_)
      have : (decide (1 ≤ b) && decide (b ≤ 1000000000)) = false := by simpa using fun h => by omega
      rw [this]; simp
  · refine Ev.neg (by simpa using fun h => by omega) (Ev.of_eq fun _ => ?_)
    have : (decide (-1000000000 ≤ a) && decide (a ≤ 1000000000)) = false := by simpa using fun h => by omega
    rw [this]; simp

theorem impl_lowest_ev (a b : Int) (ha : -9223372036854775808 < a ∧ a < 9223372036854775808) (hb : -9223372036854775808 < b ∧ b < 9223372036854775808) (h0 : b ≠ 0) :
    Ev (fun k => impl_lowest.f k a b) (if goodFrac (lowNum a b) (lowDen a b) = true then (lowNum a b, lowDen a b, true) else (0, 0, false)) := by
  unfold impl_lowest.f lowNum lowDen
  have hg := gcd_le a b 9223372036854775807 (.inr h0) (by omega) (by omega)
  refine Ev.bind (impl_divisor_ev a b ha hb) ?_
  refine Ev.ite (fun h => ?_) (fun h => ?_)
  · rw [if_pos h, if_pos h, w64 (x := -(Int.gcd a b : Int)) (by omega) (by omega)]
    have h1 := tdiv_small (-a) (Int.gcd a b) 9223372036854775807 hg.1 (by omega)
    have h2 := tdiv_small (-b) (Int.gcd a b) 9223372036854775807 hg.1 (by omega)
    have e1 : Int.tdiv a (-(Int.gcd a b : Int)) = Int.tdiv (-a) (Int.gcd a b) := by rw [Int.tdiv_neg, Int.neg_tdiv]
    have e2 : Int.tdiv b (-(Int.gcd a b : Int)) = Int.tdiv (-b) (Int.gcd a b) := by rw [Int.tdiv_neg, Int.neg_tdiv]
    refine Ev.neg (by omega) ?_
    rw [e1, e2, w64 (by omega) (by omega), w64 (by omega) (by omega)]
    refine Ev.bind (impl_GoodFrac_ev _ _) ?_
    refine Ev.ite (fun hq => ?_) (fun hq => ?_)
    · rw [if_pos hq]; exact Ev.now _
    · rw [if_neg hq]; exact Ev.now _
  · rw [if_neg h, if_neg h]
    have h1 := tdiv_small a (Int.gcd a b) 9223372036854775807 hg.1 (by omega)
    have h2 := tdiv_small b (Int.gcd a b) 9223372036854775807 hg.1 (by omega)
    refine Ev.neg (by omega) ?_
    rw [w64 (by omega) (by omega), w64 (by omega) (by omega)]
    refine Ev.bind (impl_GoodFrac_ev _ _) ?_
    refine Ev.ite (fun hq => ?_) (fun hq => ?_)
    · rw [if_pos hq]; exact Ev.now _
    · rw [if_neg hq]; exact Ev.now _

theorem low_gcd (a b : Int) (h : 0 < b) : Int.gcd (lowNum a b) (lowDen a b) = 1 := by
  unfold lowNum lowDen
  rw [if_neg (by omega), if_neg (by omega)]
  unfold Int.gcd
  have hpos : 0 < Nat.gcd a.natAbs b.natAbs := Nat.gcd_pos_of_pos_right _ (by omega)
  rw [Int.natAbs_tdiv, Int.natAbs_tdiv, Int.natAbs_natCast]
  exact Nat.gcd_div_gcd_div_gcd_of_pos_right (by omega)
theorem low_den_pos (a b : Int) (h : 0 < b) : 1 ≤ lowDen a b ∧ lowDen a b ≤ b := by
  unfold lowDen
  rw [if_neg (by omega)]
  have hg := gcd_le a b b (.inr (by omega))
  obtain ⟨n, rfl⟩ := exists_nat_of_nonneg (Int.le_of_lt h)
  have hd : Int.gcd a (n : Int) ∣ n := by have := Int.gcd_dvd_natAbs_right a (n : Int); simpa using this
  have hp : 0 < Int.gcd a (n : Int) := Nat.pos_of_dvd_of_pos hd (by omega)
  rw [show Int.tdiv (n : Int) (Int.gcd a (n : Int) : Int) = ((n / Int.gcd a (n : Int) : Nat) : Int) from rfl]
  have h1 : 1 ≤ n / Int.gcd a (n : Int) := Nat.div_pos (Nat.le_of_dvd (by omega) hd) hp
  have h2 : n / Int.gcd a (n : Int) ≤ n := Nat.div_le_self _ _
  omega
theorem low_num_le (a b m : Int) (h : 0 < b) (ha : -m ≤ a ∧ a ≤ m) : -m ≤ lowNum a b ∧ lowNum a b ≤ m := by
  unfold lowNum
  rw [if_neg (by omega)]
  have hp : 0 < Int.gcd a b := by
    rcases Nat.eq_zero_or_pos (Int.gcd a b) with h0 | h0
    · rw [Int.gcd_eq_zero_iff] at h0; omega
    · exact h0
  exact tdiv_small a _ m (by omega) ha
theorem low_num_pos (a b : Int) (h : 0 < b) (ha : 0 < a) : 1 ≤ lowNum a b ∧ lowNum a b ≤ a := by
  have e : lowNum a b = lowDen b a := by unfold lowNum lowDen; rw [if_neg (by omega), if_neg (by omega), Int.gcd_comm]
  rw [e]; exact low_den_pos b a ha
theorem low_good (a b : Int) (ha : -1000000000 ≤ a ∧ a ≤ 1000000000) (hb : 1 ≤ b ∧ b ≤ 1000000000) : goodFrac (lowNum a b) (lowDen a b) = true := by
  rw [goodFrac_iff]
  have h1 := low_num_le a b 1000000000 (by omega) ha
  have h2 := low_den_pos a b (by omega)
  exact ⟨h1, ⟨h2.1, by omega⟩, low_gcd a b (by omega)⟩
theorem low_cross (a b : Int) (h : 0 < b) : lowNum a b * b = a * lowDen a b := by
  unfold lowNum lowDen
  rw [if_neg (by omega), if_neg (by omega)]
  have h1 : (Int.gcd a b : Int) * Int.tdiv a (Int.gcd a b) = a := Int.mul_tdiv_cancel' (Int.gcd_dvd_left a b)
  have h2 : (Int.gcd a b : Int) * Int.tdiv b (Int.gcd a b) = b := Int.mul_tdiv_cancel' (Int.gcd_dvd_right a b)
  generalize Int.tdiv a (Int.gcd a b) = p at h1 ⊢
  generalize Int.tdiv b (Int.gcd a b) = q at h2 ⊢
  rw [← h1]
  conv => lhs; rw [← h2]
  rw [Int.mul_assoc, Int.mul_comm p, Int.mul_assoc, Int.mul_comm q p]

def bytesOk (l : List Int) : Prop := ∀ x ∈ l, 0 ≤ x ∧ x ≤ 255
theorem wf_u8 {x : Int} (h : (Lit.int .u8 x).wf = true) : 0 ≤ x ∧ x ≤ 255 := by
  have h' : decide (IntKind.u8.min ≤ x) && decide (x ≤ IntKind.u8.max) := h
  simp only [Bool.and_eq_true, decide_eq_true_eq] at h'
  have e1 : IntKind.u8.min = 0 := by decide
  have e2 : IntKind.u8.max = 255 := by decide
  omega
theorem bytesOk_of (l : List Int) (h : ∀ x ∈ l, (Lit.int .u8 x).wf = true) : bytesOk l := fun x hx => wf_u8 (h x hx)
theorem u64_range (x : Int) : 0 ≤ IntKind.u64.wrap x ∧ IntKind.u64.wrap x < 18446744073709551616 := by
  have e : IntKind.u64.wrap x = x % 18446744073709551616 := by simp [IntKind.wrap, IntKind.bits, IntKind.signed]
  rw [e]; omega
theorem and_255 (x : Int) (h0 : 0 ≤ x) (h1 : x < 18446744073709551616) : 0 ≤ Go.bits .and .u64 x 255 ∧ Go.bits .and .u64 x 255 ≤ 255 := by
  obtain ⟨n, rfl⟩ := exists_nat_of_nonneg h0
  have e : Go.bits .and .u64 (n : Int) ((255 : Nat) : Int) = ((n &&& 255 : Nat) : Int) := u64_and_nat n 255 (by omega) (by omega)
  have h2 : n &&& 255 ≤ 255 := Nat.and_le_right
  have e' : Go.bits .and .u64 (n : Int) 255 = ((n &&& 255 : Nat) : Int) := e
  rw [e']; omega
theorem rd_mem_or (l : List Int) (i : Int) (h0 : 0 ≤ i) (h : i < l.length) : rd l i ∈ l := by
  obtain ⟨n, rfl⟩ := exists_nat_of_nonneg h0
  rw [rd_nat l n (by omega)]; exact List.getElem_mem _

theorem cur_next (l : List Int) (a s : Int) (hl : bytesOk l) (ha : 0 ≤ a ∧ a ≤ 4611686018427387904) :
    ∃ b s', spec_l1Cur_next.f l a s = some (b, a + 1, s') ∧ 0 ≤ b ∧ b ≤ 255 := by
  have hmask : ∀ y : Int, 0 ≤ wrap64 (Go.bits .and .u64 ((IntKind.u64.wrap y) / 1099511627776) 255) ∧ wrap64 (Go.bits .and .u64 ((IntKind.u64.wrap y) / 1099511627776) 255) ≤ 255 := fun y => by
    have h1 := u64_range y
    have h2 := and_255 ((IntKind.u64.wrap y) / 1099511627776) (by omega) (by omega)
    rw [w64 (by omega) (by omega)]; exact h2
  unfold spec_l1Cur_next.f
  rw [w64 (x := a + 1) (by omega) (by omega)]
  by_cases h1 : a < (l.length : Int)
  · have hb := hl _ (rd_mem_or l a ha.1 h1)
    rw [if_pos h1, if_pos ha.1]
    by_cases h2 : a + 1 ≤ (l.length : Int)
    · rw [if_pos h2]; exact ⟨_, _, rfl, by rw [w64 (by omega) (by omega)]; exact hb⟩
    · rw [if_neg h2]; exact ⟨_, _, rfl, hmask _⟩
  · rw [if_neg h1]
    by_cases h2 : a + 1 ≤ (l.length : Int)
    · rw [if_pos h2]; exact ⟨_, _, rfl, by omega⟩
    · rw [if_neg h2]; exact ⟨_, _, rfl, hmask _⟩

theorem cur_pick (l : List Int) (a s n : Int) (hl : bytesOk l) (ha : 0 ≤ a ∧ a ≤ 4611686018427387900) :
    ∃ r a' s', spec_l1Cur_pick.f l a s n = some (r, a', s') ∧ 0 ≤ r ∧ (r < n ∨ n ≤ 1 ∧ r = 0) ∧ a ≤ a' ∧ a' ≤ a + 2 := by
  unfold spec_l1Cur_pick.f
  by_cases h : n ≤ 1
  · rw [if_pos h]; exact ⟨0, a, s, rfl, by omega, .inr ⟨h, rfl⟩, by omega, by omega⟩
  · rw [if_neg h]
    obtain ⟨b, s1, e1, hb⟩ := cur_next l a s hl (by omega)
    rw [e1]; simp only [Option.bind_some]
    by_cases h2 : n > 200
    · rw [if_pos h2]
      obtain ⟨c, s2, e2, hc⟩ := cur_next l (a + 1) s1 hl (by omega)
      rw [e2]; simp only [Option.bind_some]; rw [if_neg (by omega), w64 (x := b * 256) (by omega) (by omega), w64 (by omega) (by omega)]
      exact ⟨_, _, _, rfl, Int.tmod_nonneg _ (by omega), .inl (Int.tmod_lt_of_pos _ (by omega)), by omega, by omega⟩
    · rw [if_neg h2, if_neg (by omega)]
      exact ⟨_, _, _, rfl, Int.tmod_nonneg _ (by omega), .inl (Int.tmod_lt_of_pos _ (by omega)), by omega, by omega⟩

theorem cur_one (l : List Int) (a s n : Int) (hl : bytesOk l) (ha : 0 ≤ a ∧ a ≤ 4611686018427387900) :
    ∃ r a' s', spec_l1Cur_one.f l a s n = some (r, a', s') ∧ a ≤ a' ∧ a' ≤ a + 2 := by
  unfold spec_l1Cur_one.f
  obtain ⟨r, a', s', e, h0, h1, h2, h3⟩ := cur_pick l a s n hl ha
  rw [e]; exact ⟨_, _, _, rfl, h2, h3⟩

theorem cur_among (l : List Int) (a s : Int) (l1 : List Int) (hl : bytesOk l) (ha : 0 ≤ a ∧ a ≤ 4611686018427387900) (h1 : 0 < l1.length) :
    ∃ r a' s', spec_l1Cur_among.f l a s l1 = some (r, a', s') ∧ r ∈ l1 ∧ a ≤ a' ∧ a' ≤ a + 2 := by
  unfold spec_l1Cur_among.f
  obtain ⟨r, a', s', e, h2, h3, h4, h5⟩ := cur_pick l a s (l1.length : Int) hl ha
  have h6 : r < (l1.length : Int) := by omega
  rw [e]; simp only [Option.bind_some]; rw [if_pos h2, if_pos h6]
  exact ⟨_, _, _, rfl, rd_mem_or l1 r h2 h6, h4, h5⟩

def flowOk (flow : List Int) : Bool := decide (1 ≤ (flow.length : Int)) && decide ((flow.length : Int) ≤ 8) && allIn flow 1 30
def countsOk (flow counts : List Int) : Bool := flowOk flow && (decide ((counts.length : Int) = (flow.length : Int)) && (allIn counts 1 40 && decide (counts.sum ≤ 40)))
theorem flowOk_iff (flow : List Int) : flowOk flow = true ↔ (1 ≤ flow.length ∧ flow.length ≤ 8) ∧ ∀ x ∈ flow, 1 ≤ x ∧ x ≤ 30 := by
  simp only [flowOk, Bool.and_eq_true, decide_eq_true_eq, allIn_iff]
  constructor
  · rintro ⟨⟨h1, h2⟩, h3⟩; exact ⟨⟨by omega, by omega⟩, h3⟩
  · rintro ⟨⟨h1, h2⟩, h3⟩; exact ⟨⟨by omega, by omega⟩, h3⟩
theorem countsOk_iff (flow counts : List Int) : countsOk flow counts = true ↔ flowOk flow = true ∧ counts.length = flow.length ∧ (∀ x ∈ counts, 1 ≤ x ∧ x ≤ 40) ∧ counts.sum ≤ 40 := by
  simp only [countsOk, Bool.and_eq_true, decide_eq_true_eq, allIn_iff]
  constructor
  · rintro ⟨h1, h2, h3, h4⟩; exact ⟨h1, by omega, h3, h4⟩
  · rintro ⟨h1, h2, h3, h4⟩; exact ⟨h1, by omega, h3, h4⟩

theorem spec_l4Flow_ev (flow : List Int) (h : flow.length < 4611686018427387904) : Ev (fun k => spec_l4Flow.f k flow) (flowOk flow) := by
  unfold spec_l4Flow.f flowOk
  refine Ev.bind0 (spec_l1In_eq _ _ _) ?_
  refine Ev.ite (fun hc => ?_) (fun hc => ?_)
  · rw [hc]; refine Ev.bind (spec_l1All_ev flow 1 30 h) ?_; simpa using Ev.now _
  · rw [Bool.eq_false_iff.mpr hc]; exact Ev.now _

theorem impl_isFlow_ev (flow : List Int) (h : flow.length < 4611686018427387904) : Ev (fun k => impl_isFlow.f k flow) (flowOk flow) := by
  unfold impl_isFlow.f flowOk
  refine Ev.bind0 (impl_within_eq _ _ _) ?_
  refine Ev.ite (fun hc => ?_) (fun hc => ?_)
  · rw [hc]; refine Ev.bind (impl_allWithin_ev flow 1 30 h) ?_; simpa using Ev.now _
  · rw [Bool.eq_false_iff.mpr hc]; exact Ev.now _

theorem spec_l4Counts_ev (flow counts : List Int) (h : flow.length ≤ 1048576) (h2 : counts.length ≤ 1048576) : Ev (fun k => spec_l4Counts.f k flow counts) (countsOk flow counts) := by
  unfold spec_l4Counts.f countsOk
  refine Ev.bind (spec_l4Flow_ev flow (by omega)) ?_
  refine Ev.ite (fun hc => ?_) (fun hc => ?_)
  · rw [hc]
    refine Ev.ite (fun hd => ?_) (fun hd => ?_)
    · rw [decide_eq_true hd]
      refine Ev.bind (spec_l1All_ev counts 1 40 (by omega)) ?_
      refine Ev.ite (fun he => ?_) (fun he => ?_)
      · rw [he]; refine Ev.bind (spec_l3Sum_ev counts 1 40 ((allIn_iff _ _ _).mp he) (by omega) (by omega) h2) ?_; simpa using Ev.now _
      · rw [Bool.eq_false_iff.mpr he]; exact Ev.now _
    · rw [decide_eq_false hd]; exact Ev.now _
  · rw [Bool.eq_false_iff.mpr hc]; exact Ev.now _

theorem impl_areCounts_ev (flow counts : List Int) (h : flow.length ≤ 1048576) (h2 : counts.length ≤ 1048576) : Ev (fun k => impl_areCounts.f k flow counts) (countsOk flow counts) := by
  unfold impl_areCounts.f countsOk
  refine Ev.bind (impl_isFlow_ev flow (by omega)) ?_
  refine Ev.ite (fun hc => ?_) (fun hc => ?_)
  · rw [hc]
    refine Ev.ite (fun hd => ?_) (fun hd => ?_)
    · rw [decide_eq_true hd]
      refine Ev.bind (impl_allWithin_ev counts 1 40 (by omega)) ?_
      refine Ev.ite (fun he => ?_) (fun he => ?_)
      · rw [he]; refine Ev.bind (impl_sum_ev counts 1 40 ((allIn_iff _ _ _).mp he) (by omega) (by omega) h2) ?_; simpa using Ev.now _
      · rw [Bool.eq_false_iff.mpr he]; exact Ev.now _
    · rw [decide_eq_false hd]; exact Ev.now _
  · rw [Bool.eq_false_iff.mpr hc]; exact Ev.now _

def gn (f c : Int) : Int := lowNum f (c * (c + 1))
def gd (f c : Int) : Int := lowDen f (c * (c + 1))
theorem gain_den (c : Int) (hc : 1 ≤ c ∧ c ≤ 40) : 1 ≤ c * (c + 1) ∧ c * (c + 1) ≤ 1640 := by
  have h1 : 1 * 1 ≤ c * (c + 1) := Int.mul_le_mul (by omega) (by omega) (by omega) (by omega)
  have h2 : c * (c + 1) ≤ 40 * 41 := Int.mul_le_mul (by omega) (by omega) (by omega) (by omega)
  omega
theorem gn_bounds (f c : Int) (hf : 1 ≤ f ∧ f ≤ 30) (hc : 1 ≤ c ∧ c ≤ 40) : 1 ≤ gn f c ∧ gn f c ≤ 30 := by
  have := low_num_pos f (c * (c + 1)) (by have := gain_den c hc; omega) (by omega); unfold gn; omega
theorem gd_bounds (f c : Int) (hf : 1 ≤ f ∧ f ≤ 30) (hc : 1 ≤ c ∧ c ≤ 40) : 1 ≤ gd f c ∧ gd f c ≤ 1640 := by
  have := gain_den c hc
  have := low_den_pos f (c * (c + 1)) (by omega); unfold gd; omega
theorem mul_small {a b m n : Int} (ha : 0 ≤ a ∧ a ≤ m) (hb : 0 ≤ b ∧ b ≤ n) : 0 ≤ a * b ∧ a * b ≤ m * n :=
  ⟨Int.mul_nonneg ha.1 hb.1, Int.mul_le_mul ha.2 hb.2 hb.1 (by omega)⟩
def bestUp (lt : Nat → Nat → Bool) : Nat → Nat
  | 0 => 0
  | i + 1 => if lt (bestUp lt i) i = true then i else bestUp lt i
theorem bestUp_succ (lt : Nat → Nat → Bool) (i : Nat) : bestUp lt (i + 1) = if lt (bestUp lt i) i = true then i else bestUp lt i := rfl
theorem bestUp_lt (lt : Nat → Nat → Bool) (n i : Nat) (hn : 0 < n) (h : i ≤ n) : bestUp lt i < n := by
  induction i with
  | zero => exact hn
  | succ i ih => unfold bestUp; split
                 · omega
                 · exact ih (by omega)
def gainLt (flow counts : List Int) (b i : Nat) : Bool := decide (gn flow[b]! counts[b]! * gd flow[i]! counts[i]! < gn flow[i]! counts[i]! * gd flow[b]! counts[b]!)
def nextOf (flow counts : List Int) : Nat := bestUp (gainLt flow counts) flow.length
theorem nextOf_lt (flow counts : List Int) (h : 0 < flow.length) : nextOf flow counts < flow.length := bestUp_lt _ _ _ h (Nat.le_refl _)

theorem spec_l4Gain_ev (flow counts : List Int) (i : Nat) (hi : i < flow.length) (hl : counts.length = flow.length) (hf : ∀ x ∈ flow, 1 ≤ x ∧ x ≤ 30) (hc : ∀ x ∈ counts, 1 ≤ x ∧ x ≤ 40) :
    Ev (fun k => spec_l4Gain.f k flow counts (i : Int)) (gn flow[i]! counts[i]!, gd flow[i]! counts[i]!) := by
  have hi2 : i < counts.length := by omega
  have h1 := hf flow[i] (List.getElem_mem hi)
  have h2 := hc counts[i] (List.getElem_mem hi2)
  have h3 := gain_den counts[i] h2
  unfold spec_l4Gain.f
  refine Ev.pos (by omega) (Ev.pos (lt_len hi) (Ev.pos (lt_len hi2) ?_))
  rw [rd_nat _ _ hi, rd_nat _ _ hi2, getElem!_pos flow i hi, getElem!_pos counts i hi2, w64 (x := counts[i] + 1) (by omega) (by omega), w64 (by omega) (by omega)]
  exact Ev.bind (spec_l1Make_ev _ _ (by omega) (by omega) (by omega)) (Ev.now _)
theorem spec_l1Less_gain (flow counts : List Int) (b i : Nat) (hb : b < flow.length) (hi : i < flow.length) (hl : counts.length = flow.length) (hf : ∀ x ∈ flow, 1 ≤ x ∧ x ≤ 30) (hc : ∀ x ∈ counts, 1 ≤ x ∧ x ≤ 40) :
    spec_l1Less.f (gn flow[b]! counts[b]!) (gd flow[b]! counts[b]!) (gn flow[i]! counts[i]!) (gd flow[i]! counts[i]!) = some (gainLt flow counts b i) := by
  have hib : i < counts.length := by omega
  have hbb : b < counts.length := by omega
  have g1 := gn_bounds _ _ (hf flow[i] (List.getElem_mem hi)) (hc counts[i] (List.getElem_mem hib))
  have g2 := gd_bounds _ _ (hf flow[i] (List.getElem_mem hi)) (hc counts[i] (List.getElem_mem hib))
  have g3 := gn_bounds _ _ (hf _ (List.getElem_mem hb)) (hc _ (List.getElem_mem hbb))
  have g4 := gd_bounds _ _ (hf _ (List.getElem_mem hb)) (hc _ (List.getElem_mem hbb))
  rw [← getElem!_pos flow, ← getElem!_pos counts] at g1 g2 g3 g4
  have m1 := mul_small (a := gn flow[b]! counts[b]!) (b := gd flow[i]! counts[i]!) (m := 30) (n := 1640) ⟨by omega, by omega⟩ ⟨by omega, by omega⟩
  have m2 := mul_small (a := gn flow[i]! counts[i]!) (b := gd flow[b]! counts[b]!) (m := 30) (n := 1640) ⟨by omega, by omega⟩ ⟨by omega, by omega⟩
  unfold spec_l1Less.f gainLt
  rw [w64 (by omega) (by omega), w64 (by omega) (by omega)]
theorem spec_l4Next_ev (flow counts : List Int) (h0 : flow.length ≤ 1048576) (hl : counts.length = flow.length) (hf : ∀ x ∈ flow, 1 ≤ x ∧ x ≤ 30) (hc : ∀ x ∈ counts, 1 ≤ x ∧ x ≤ 40) :
    Ev (fun k => spec_l4Next.f k flow counts) (nextOf flow counts : Int) := by
  unfold spec_l4Next.f nextOf
  refine ev_up flow.length (fun k i => spec_l4Next.l0 k flow counts (bestUp (gainLt flow counts) i : Int) (flow.length : Int) (i : Int)) _ (fun _ => True) trivial ?_ ?_
  · intro _
    refine Ev.succ ?_
    simp only [spec_l4Next.l0]; exact Ev.neg (by omega) (Ev.now _)
  · intro i hi _ hn
    have hb : bestUp (gainLt flow counts) i < flow.length := bestUp_lt _ _ _ (by omega) (by omega)
    have hib : i < counts.length := by omega
    have hbb : bestUp (gainLt flow counts) i < counts.length := by omega
    refine Ev.succ ?_
    simp only [spec_l4Next.l0]
    refine Ev.pos (lt_len hi) (Ev.bind (spec_l4Gain_ev flow counts _ hb hl hf hc) (Ev.bind (spec_l4Gain_ev flow counts _ hi hl hf hc) ?_))
    have e := spec_l1Less_gain flow counts (bestUp (gainLt flow counts) i) i hb hi hl hf hc
    refine Ev.bind0 e ?_
    rw [w64 (by omega) (by omega)]
    have hn' := hn trivial
    rw [bestUp_succ] at hn'
    refine Ev.ite (fun hc => ?_) (fun hc => ?_)
    · rw [if_pos hc] at hn'; exact hn'
    · rw [if_neg hc] at hn'; exact hn'

theorem impl_gain_ev (f c : Int) (hf : 1 ≤ f ∧ f ≤ 30) (hc : 1 ≤ c ∧ c ≤ 40) : Ev (fun k => impl_gain.f k f c) (gn f c, gd f c) := by
  have h3 := gain_den c hc
  unfold impl_gain.f
  rw [w64 (x := c + 1) (by omega) (by omega), w64 (by omega) (by omega)]
  refine Ev.bind (impl_lowest_ev _ _ (by omega) (by omega) (by omega)) ?_
  rw [if_pos (low_good _ _ (by omega) (by omega))]
  exact Ev.now _
theorem impl_compareFracs_eq (a b c d : Int) (h1 : -4000000000000000000 ≤ a * d ∧ a * d ≤ 4000000000000000000) (h2 : -4000000000000000000 ≤ c * b ∧ c * b ≤ 4000000000000000000) :
    impl_compareFracs.f a b c d = some (if a * d < c * b then -1 else if c * b < a * d then 1 else 0) := by
  unfold impl_compareFracs.f
  rw [w64 (x := a * d) (by omega) (by omega), w64 (x := c * b) (by omega) (by omega), w64 (by omega) (by omega)]
  by_cases h : a * d < c * b
  · rw [if_pos (by omega), if_pos h]
  · rw [if_neg (by omega), if_neg h]
    by_cases h' : c * b < a * d
    · rw [if_pos (by omega), if_pos h']
    · rw [if_neg (by omega), if_neg h']
theorem impl_next_ev (flow counts : List Int) (h0 : flow.length ≤ 1048576) (hl : counts.length = flow.length) (hf : ∀ x ∈ flow, 1 ≤ x ∧ x ≤ 30) (hc : ∀ x ∈ counts, 1 ≤ x ∧ x ≤ 40) :
    Ev (fun k => impl_next.f k flow counts) (nextOf flow counts : Int) := by
  unfold impl_next.f nextOf
  refine ev_up flow.length (fun k i => impl_next.l0 k flow counts (bestUp (gainLt flow counts) i : Int) (flow.length : Int) (i : Int)) _ (fun _ => True) trivial ?_ ?_
  · intro _
    refine Ev.succ ?_
    simp only [impl_next.l0]; exact Ev.neg (by omega) (Ev.now _)
  · intro i hi _ hn
    have hb : bestUp (gainLt flow counts) i < flow.length := bestUp_lt _ _ _ (by omega) (by omega)
    have hib : i < counts.length := by omega
    have hbb : bestUp (gainLt flow counts) i < counts.length := by omega
    refine Ev.succ ?_
    simp only [impl_next.l0]
    have f1 := hf flow[i] (List.getElem_mem hi)
    have f2 := hc counts[i] (List.getElem_mem hib)
    have f3 := hf _ (List.getElem_mem hb)
    have f4 := hc _ (List.getElem_mem hbb)
    refine Ev.pos (lt_len hi) (Ev.pos (by omega) (Ev.pos (lt_len hi) (Ev.pos (lt_len hib) ?_)))
    rw [rd_nat _ _ hi, rd_nat _ _ hib, rd_nat _ _ hb, rd_nat _ _ hbb]
    refine Ev.bind (impl_gain_ev _ _ f1 f2) (Ev.pos (by omega) (Ev.pos (lt_len hb) (Ev.pos (lt_len hbb) (Ev.bind (impl_gain_ev _ _ f3 f4) ?_))))
    have g1 := gn_bounds _ _ f1 f2
    have g2 := gd_bounds _ _ f1 f2
    have g3 := gn_bounds _ _ f3 f4
    have g4 := gd_bounds _ _ f3 f4
    have m1 := mul_small (a := gn flow[bestUp (gainLt flow counts) i] counts[bestUp (gainLt flow counts) i]) (b := gd flow[i] counts[i]) (m := 30) (n := 1640) ⟨by omega, by omega⟩ ⟨by omega, by omega⟩
    have m2 := mul_small (a := gn flow[i] counts[i]) (b := gd flow[bestUp (gainLt flow counts) i] counts[bestUp (gainLt flow counts) i]) (m := 30) (n := 1640) ⟨by omega, by omega⟩ ⟨by omega, by omega⟩
    dsimp only
    refine Ev.bind0 (impl_compareFracs_eq _ _ _ _ (by omega) (by omega)) ?_
    rw [w64 (by omega) (by omega)]
    have hn' := hn trivial
    rw [bestUp_succ] at hn'
    have e : gainLt flow counts (bestUp (gainLt flow counts) i) i = decide (gn flow[bestUp (gainLt flow counts) i] counts[bestUp (gainLt flow counts) i] * gd flow[i] counts[i] < gn flow[i] counts[i] * gd flow[bestUp (gainLt flow counts) i] counts[bestUp (gainLt flow counts) i]) := by
      unfold gainLt
      rw [getElem!_pos flow i hi, getElem!_pos counts i hib, getElem!_pos flow _ hb, getElem!_pos counts _ hbb]
    by_cases hlt : gn flow[bestUp (gainLt flow counts) i] counts[bestUp (gainLt flow counts) i] * gd flow[i] counts[i] < gn flow[i] counts[i] * gd flow[bestUp (gainLt flow counts) i] counts[bestUp (gainLt flow counts) i]
    · rw [e, decide_eq_true hlt, if_pos rfl] at hn'
      rw [if_neg (by omega), if_pos hlt]
      exact Ev.pos (by omega) hn'
    · rw [e, decide_eq_false hlt, if_neg (by decide)] at hn'
      rw [if_neg hlt]
      refine Ev.neg ?_ hn'
      split <;> omega

def nextFor (flow counts : List Int) : Int × Bool := if countsOk flow counts = true then ((nextOf flow counts : Int), true) else (0, false)
theorem spec_NextFor_ev (flow counts : List Int) (h : flow.length ≤ 1048576) (h2 : counts.length ≤ 1048576) : Ev (fun k => spec_NextFor.f k flow counts) (nextFor flow counts) := by
  unfold spec_NextFor.f nextFor
  refine Ev.bind (spec_l4Counts_ev flow counts h h2) ?_
  refine Ev.ite (fun hc => ?_) (fun hc => ?_)
  · rw [if_pos hc]
    have hh := (countsOk_iff _ _).mp hc
    exact Ev.bind (spec_l4Next_ev flow counts h hh.2.1 ((flowOk_iff _).mp hh.1).2 hh.2.2.1) (Ev.now _)
  · rw [if_neg hc]; exact Ev.now _

theorem impl_NextFor_ev (flow counts : List Int) (h : flow.length ≤ 1048576) (h2 : counts.length ≤ 1048576) : Ev (fun k => impl_NextFor.f k flow counts) (nextFor flow counts) := by
  unfold impl_NextFor.f nextFor
  refine Ev.bind (impl_areCounts_ev flow counts h h2) ?_
  refine Ev.ite (fun hc => ?_) (fun hc => ?_)
  · rw [if_pos hc]
    have hh := (countsOk_iff _ _).mp hc
    exact Ev.bind (impl_next_ev flow counts h hh.2.1 ((flowOk_iff _).mp hh.1).2 hh.2.2.1) (Ev.now _)
  · rw [if_neg hc]; exact Ev.now _

def fits (p : Int × Int) : Int × Int × Bool := if goodFrac p.1 p.2 = true then (p.1, p.2, true) else (0, 0, false)
def bothGood (a b c d : Int) : Bool := goodFrac a b && goodFrac c d
theorem bothGood_iff (a b c d : Int) : bothGood a b c d = true ↔ goodFrac a b = true ∧ goodFrac c d = true := by simp [bothGood]
theorem mul_abs_le {a b m n : Int} (ha : -m ≤ a ∧ a ≤ m) (hb : -n ≤ b ∧ b ≤ n) (hm : 0 ≤ m) (hn : 0 ≤ n) : -(m * n) ≤ a * b ∧ a * b ≤ m * n := by
  have h1 : a.natAbs ≤ m.natAbs := by omega
  have h2 : b.natAbs ≤ n.natAbs := by omega
  have h3 : (a * b).natAbs ≤ (m * n).natAbs := by rw [Int.natAbs_mul, Int.natAbs_mul]; exact Nat.mul_le_mul h1 h2
  have h4 : 0 ≤ m * n := Int.mul_nonneg hm hn
  omega
theorem prod_e18 {a b : Int} (ha : -1000000000 ≤ a ∧ a ≤ 1000000000) (hb : -1000000000 ≤ b ∧ b ≤ 1000000000) : -1000000000000000000 ≤ a * b ∧ a * b ≤ 1000000000000000000 := by
  have := mul_abs_le ha hb (by omega) (by omega); omega
theorem prod_pos {a b : Int} (ha : 1 ≤ a ∧ a ≤ 1000000000) (hb : 1 ≤ b ∧ b ≤ 1000000000) : 1 ≤ a * b ∧ a * b ≤ 1000000000000000000 := by
  have h := prod_e18 (a := a) (b := b) (by omega) (by omega)
  have h2 : 0 < a * b := Int.mul_pos (by omega) (by omega)
  omega
def addF (a b c d : Int) : Int × Int × Bool := if bothGood a b c d = true then fits (lowNum (a * d + c * b) (b * d), lowDen (a * d + c * b) (b * d)) else (0, 0, false)
def subF (a b c d : Int) : Int × Int × Bool := if bothGood a b c d = true then fits (lowNum (a * d - c * b) (b * d), lowDen (a * d - c * b) (b * d)) else (0, 0, false)
def mulF (a b c d : Int) : Int × Int × Bool := if bothGood a b c d = true then fits (lowNum (a * c) (b * d), lowDen (a * c) (b * d)) else (0, 0, false)
def divF (a b c d : Int) : Int × Int × Bool := if bothGood a b c d = true ∧ c ≠ 0 then fits (lowNum (a * d) (b * c), lowDen (a * d) (b * c)) else (0, 0, false)
def lessF (a b c d : Int) : Bool × Bool := if bothGood a b c d = true then (decide (a * d < c * b), true) else (false, false)
def floorF (a b : Int) : Int × Bool := if goodFrac a b = true then (a / b, true) else (0, false)

theorem impl_areFracs_ev (l : List S61) (hl : l.length ≤ 1048576) : Ev (fun k => impl_areFracs.f k l) (l.all fun x => goodFrac x.f0 x.f1) := by
  unfold impl_areFracs.f sl0_ContainsFunc.f sl2_IndexFunc.f
  have hc : ∀ x : S61, Ev (fun k => impl_areFracs_1.f k x.f0 x.f1) (!goodFrac x.f0 x.f1) := fun x => by
    unfold impl_areFracs_1.f; exact Ev.bind (impl_GoodFrac_ev _ _) (Ev.now _)
  have hr : ∀ (i : Nat) (h : i < l.length), rd_T61 l (i : Int) = l[i] := fun i h => by simp [rd_T61, h]
  have key : ∃ j : Int, decide (j ≥ 0) = !(l.all fun x => goodFrac x.f0 x.f1) ∧ Ev (fun k => sl2_IndexFunc.l0 k l (l.length : Int) 0) j := by
    have gen : ∀ (d i : Nat), i + d = l.length → ∃ j : Int, decide (j ≥ 0) = !((l.drop i).all fun x => goodFrac x.f0 x.f1) ∧ Ev (fun k => sl2_IndexFunc.l0 k l (l.length : Int) (i : Int)) j := by
      intro d
      induction d with
      | zero =>
        intro i hi
        refine ⟨-1, by rw [List.drop_of_length_le (by omega)]; decide, Ev.succ ?_⟩
        simp only [sl2_IndexFunc.l0]; exact Ev.neg (by omega) (Ev.now _)
      | succ d ih =>
        intro i hi
        have hi' : i < l.length := by omega
        have hd : (l.drop i).all (fun x => goodFrac x.f0 x.f1) = (goodFrac l[i].f0 l[i].f1 && (l.drop (i + 1)).all fun x => goodFrac x.f0 x.f1) := by
          rw [List.drop_eq_getElem_cons hi', List.all_cons]
        cases hg : goodFrac l[i].f0 l[i].f1 with
        | true =>
          obtain ⟨j, hj, hev⟩ := ih (i + 1) (by omega)
          refine ⟨j, by rw [hd, hg, hj]; simp, Ev.succ ?_⟩
          simp only [sl2_IndexFunc.l0]
          refine Ev.pos (lt_len hi') (Ev.pos (by omega) (Ev.pos (lt_len hi') ?_))
          rw [hr i hi', w64 (by omega) (by omega)]
          refine Ev.bind (hc _) (Ev.neg (by rw [hg]; simp) hev)
        | false =>
          refine ⟨i, by rw [hd, hg]; simp, Ev.succ ?_⟩
          simp only [sl2_IndexFunc.l0]
          refine Ev.pos (lt_len hi') (Ev.pos (by omega) (Ev.pos (lt_len hi') ?_))
          rw [hr i hi']
          refine Ev.bind (hc _) (Ev.pos (by rw [hg]; rfl) (Ev.now _))
    have := gen l.length 0 (by omega)
    simpa using this
  obtain ⟨j, hj, hev⟩ := key
  refine Ev.to (Ev.bind (Ev.bind hev (Ev.now _)) (Ev.now _)) ?_
  rw [hj]; simp
theorem impl_two_ev (a b c d : Int) : Ev (fun k => impl_areFracs.f k [(⟨a, b⟩ : S61), (⟨c, d⟩ : S61)]) (bothGood a b c d) :=
  Ev.to (impl_areFracs_ev _ (by simp)) (by simp [bothGood])

theorem spec_l1Both_ev (a b c d : Int) : Ev (fun k => spec_l1Both.f k a b c d) (bothGood a b c d) := by
  unfold spec_l1Both.f bothGood
  refine Ev.bind (spec_GoodFrac_ev a b) (Ev.ite (fun h => ?_) (fun h => ?_))
  · rw [h]; refine Ev.bind (spec_GoodFrac_ev c d) ?_; simpa using Ev.now _
  · rw [Bool.eq_false_iff.mpr h]; exact Ev.now _

theorem spec_l1Fits_ev (a b : Int) : Ev (fun k => spec_l1Fits.f k a b) (fits (a, b)) := by
  unfold spec_l1Fits.f fits
  refine Ev.bind (spec_GoodFrac_ev a b) (Ev.ite (fun h => ?_) (fun h => ?_))
  · rw [if_pos h]; exact Ev.now _
  · rw [if_neg h]; exact Ev.now _

theorem impl_lowest_fits (a b : Int) (ha : -9223372036854775808 < a ∧ a < 9223372036854775808) (hb : -9223372036854775808 < b ∧ b < 9223372036854775808) (h0 : b ≠ 0) :
    Ev (fun k => impl_lowest.f k a b) (fits (lowNum a b, lowDen a b)) := impl_lowest_ev a b ha hb h0

theorem impl_AddFrac_ev (a b c d : Int) : Ev (fun k => impl_AddFrac.f k a b c d) (addF a b c d) := by
  unfold impl_AddFrac.f addF
  refine Ev.bind (impl_two_ev a b c d) (Ev.ite (fun h => ?_) (fun h => ?_))
  · rw [if_pos h]
    obtain ⟨h1, h2⟩ := (bothGood_iff _ _ _ _).mp h
    obtain ⟨n1, d1, _⟩ := (goodFrac_iff _ _).mp h1
    obtain ⟨n2, d2, _⟩ := (goodFrac_iff _ _).mp h2
    have p1 := prod_e18 (a := a) (b := d) n1 (by omega)
    have p2 := prod_e18 (a := c) (b := b) n2 (by omega)
    have p3 := prod_pos d1 d2
    rw [w64 (x := a * d) (by omega) (by omega), w64 (x := c * b) (by omega) (by omega), w64 (x := b * d) (by omega) (by omega), w64 (by omega) (by omega)]
    exact Ev.bind (impl_lowest_fits _ _ (by omega) (by omega) (by omega)) (Ev.now _)
  · rw [if_neg h]; exact Ev.now _

theorem impl_SubFrac_ev (a b c d : Int) : Ev (fun k => impl_SubFrac.f k a b c d) (subF a b c d) := by
  unfold impl_SubFrac.f subF
  refine Ev.bind (impl_two_ev a b c d) (Ev.ite (fun h => ?_) (fun h => ?_))
  · rw [if_pos h]
    obtain ⟨h1, h2⟩ := (bothGood_iff _ _ _ _).mp h
    obtain ⟨n1, d1, _⟩ := (goodFrac_iff _ _).mp h1
    obtain ⟨n2, d2, _⟩ := (goodFrac_iff _ _).mp h2
    have p1 := prod_e18 (a := a) (b := d) n1 (by omega)
    have p2 := prod_e18 (a := c) (b := b) n2 (by omega)
    have p3 := prod_pos d1 d2
    rw [w64 (x := a * d) (by omega) (by omega), w64 (x := c * b) (by omega) (by omega), w64 (x := b * d) (by omega) (by omega), w64 (by omega) (by omega)]
    exact Ev.bind (impl_lowest_fits _ _ (by omega) (by omega) (by omega)) (Ev.now _)
  · rw [if_neg h]; exact Ev.now _

theorem impl_LessFrac_ev (a b c d : Int) : Ev (fun k => impl_LessFrac.f k a b c d) (lessF a b c d) := by
  unfold impl_LessFrac.f lessF
  refine Ev.bind (impl_two_ev a b c d) (Ev.ite (fun h => ?_) (fun h => ?_))
  · rw [if_pos h]
    obtain ⟨h1, h2⟩ := (bothGood_iff _ _ _ _).mp h
    obtain ⟨n1, d1, _⟩ := (goodFrac_iff _ _).mp h1
    obtain ⟨n2, d2, _⟩ := (goodFrac_iff _ _).mp h2
    have p1 := prod_e18 (a := a) (b := d) n1 (by omega)
    have p2 := prod_e18 (a := c) (b := b) n2 (by omega)
    refine Ev.bind0 (impl_compareFracs_eq a b c d (by omega) (by omega)) (Ev.of_eq fun _ => ?_)
    by_cases hlt : a * d < c * b
    · simp [hlt]
    · rw [if_neg hlt]; split <;> simp [hlt]
  · rw [if_neg h]; exact Ev.now _

theorem spec_l1Add_ev (a b c d : Int) (n1 : -1000000000 ≤ a ∧ a ≤ 1000000000) (d1 : 1 ≤ b ∧ b ≤ 1000000000) (n2 : -1000000000 ≤ c ∧ c ≤ 1000000000) (d2 : 1 ≤ d ∧ d ≤ 1000000000) :
    Ev (fun k => spec_l1Add.f k a b c d) (lowNum (a * d + c * b) (b * d), lowDen (a * d + c * b) (b * d)) := by
  unfold spec_l1Add.f
  have p1 := prod_e18 (a := a) (b := d) n1 (by omega)
  have p2 := prod_e18 (a := c) (b := b) n2 (by omega)
  have p3 := prod_pos d1 d2
  rw [w64 (x := a * d) (by omega) (by omega), w64 (x := c * b) (by omega) (by omega), w64 (x := b * d) (by omega) (by omega), w64 (by omega) (by omega)]
  exact Ev.bind (spec_l1Make_ev _ _ (by omega) (by omega) (by omega)) (Ev.now _)

theorem spec_AddFrac_ev (a b c d : Int) : Ev (fun k => spec_AddFrac.f k a b c d) (addF a b c d) := by
  unfold spec_AddFrac.f addF
  refine Ev.bind (spec_l1Both_ev a b c d) (Ev.ite (fun h => ?_) (fun h => ?_))
  · rw [if_pos h]
    obtain ⟨h1, h2⟩ := (bothGood_iff _ _ _ _).mp h
    obtain ⟨n1, d1, _⟩ := (goodFrac_iff _ _).mp h1
    obtain ⟨n2, d2, _⟩ := (goodFrac_iff _ _).mp h2
    exact Ev.bind (spec_l1Add_ev a b c d n1 d1 n2 d2) (Ev.bind (spec_l1Fits_ev _ _) (Ev.now _))
  · rw [if_neg h]; exact Ev.now _

def sumF : List (Int × Int) → Int × Int → Int × Int × Bool
  | [], s => (s.1, s.2, true)
  | x :: l, s => if (addF s.1 s.2 x.1 x.2).2.2 = true then sumF l ((addF s.1 s.2 x.1 x.2).1, (addF s.1 s.2 x.1 x.2).2.1) else (0, 0, false)

theorem impl_sumFracs_ev (l : List S61) (hl : l.length ≤ 1048576) : Ev (fun k => impl_sumFracs.f k l) (sumF (l.map fun x => (x.f0, x.f1)) (0, 1)) := by
  unfold impl_sumFracs.f
  have hr : ∀ (i : Nat) (h : i < l.length), rd_T61 l (i : Int) = l[i] := fun i h => by simp [rd_T61, h]
  have gen : ∀ (d i : Nat) (p q : Int), i + d = l.length → Ev (fun k => impl_sumFracs.l0 k l (l.length : Int) (i : Int) p q) (sumF ((l.drop i).map fun x => (x.f0, x.f1)) (p, q)) := by
    intro d
    induction d with
    | zero =>
      intro i p q hi
      refine Ev.succ ?_
      simp only [impl_sumFracs.l0]; rw [List.drop_of_length_le (by omega)]; exact Ev.neg (by omega) (Ev.now _)
    | succ d ih =>
      intro i p q hi
      have hi' : i < l.length := by omega
      refine Ev.succ ?_
      simp only [impl_sumFracs.l0]
      refine Ev.pos (lt_len hi') (Ev.pos (by omega) (Ev.pos (lt_len hi') ?_))
      rw [hr i hi', w64 (by omega) (by omega), List.drop_eq_getElem_cons hi', List.map_cons, sumF]
      refine Ev.bind (impl_AddFrac_ev _ _ _ _) (Ev.ite (fun h => ?_) (fun h => ?_))
      · rw [if_pos h]; exact ih (i + 1) _ _ (by omega)
      · rw [if_neg h]; exact Ev.now _
  have := gen l.length 0 0 1 (by omega)
  simpa using this

def sumsF (l : List (Int × Int)) : Int × Int × Bool := if l.length ≤ 50 then sumF l (0, 1) else (0, 0, false)

theorem spec_SumFracs_ev (l : List S61) (hl : l.length ≤ 1048576) : Ev (fun k => spec_SumFracs.f k l) (sumsF (l.map fun x => (x.f0, x.f1))) := by
  unfold spec_SumFracs.f sumsF
  rw [List.length_map]
  have hr : ∀ (i : Nat) (h : i < l.length), rd_T61 l (i : Int) = l[i] := fun i h => by simp [rd_T61, h]
  have gen : ∀ (d i : Nat) (p q : Int), i + d = l.length → Ev (fun k => spec_SumFracs.l0 k l (l.length : Int) (i : Int) p q) (sumF ((l.drop i).map fun x => (x.f0, x.f1)) (p, q)) := by
    intro d
    induction d with
    | zero =>
      intro i p q hi
      refine Ev.succ ?_
      simp only [spec_SumFracs.l0]; rw [List.drop_of_length_le (by omega)]; exact Ev.neg (by omega) (Ev.now _)
    | succ d ih =>
      intro i p q hi
      have hi' : i < l.length := by omega
      refine Ev.succ ?_
      simp only [spec_SumFracs.l0]
      refine Ev.pos (lt_len hi') (Ev.pos (by omega) (Ev.pos (lt_len hi') ?_))
      rw [hr i hi', w64 (by omega) (by omega), List.drop_eq_getElem_cons hi', List.map_cons, sumF]
      refine Ev.bind (spec_AddFrac_ev _ _ _ _) (Ev.ite (fun h => ?_) (fun h => ?_))
      · rw [if_pos h]; exact ih (i + 1) _ _ (by omega)
      · rw [if_neg h]; exact Ev.now _
  refine Ev.ite (fun h => ?_) (fun h => ?_)
  · rw [if_neg (by omega)]; exact Ev.now _
  · rw [if_pos (by omega)]
    have := gen l.length 0 0 1 (by omega)
    simpa using this

theorem frac_unique {a b c d : Int} (h1 : goodFrac a b = true) (h2 : goodFrac c d = true) (h : a * d = c * b) : a = c ∧ b = d := by
  obtain ⟨n1, d1, g1⟩ := (goodFrac_iff _ _).mp h1
  obtain ⟨n2, d2, g2⟩ := (goodFrac_iff _ _).mp h2
  have hn : a.natAbs * d.natAbs = c.natAbs * b.natAbs := by rw [← Int.natAbs_mul, ← Int.natAbs_mul, h]
  have c1 : Nat.Coprime b.natAbs a.natAbs := by rw [Nat.coprime_comm]; exact g1
  have c2 : Nat.Coprime d.natAbs c.natAbs := by rw [Nat.coprime_comm]; exact g2
  have v1 : b.natAbs ∣ d.natAbs := c1.dvd_of_dvd_mul_left (by rw [hn]; exact Nat.dvd_mul_left _ _)
  have v2 : d.natAbs ∣ b.natAbs := c2.dvd_of_dvd_mul_left (by rw [← hn]; exact Nat.dvd_mul_left _ _)
  have hbd : b = d := by have := Nat.dvd_antisymm v1 v2; omega
  subst hbd
  refine ⟨?_, rfl⟩
  exact Int.eq_of_mul_eq_mul_right (by omega) h
theorem fits_true {p : Int × Int} (h : (fits p).2.2 = true) : goodFrac p.1 p.2 = true ∧ fits p = (p.1, p.2, true) := by
  unfold fits at h ⊢
  split at h
  case isTrue hh => exact ⟨hh, by rw [if_pos hh]⟩
  case isFalse => simp at h
theorem addF_true {a b c d : Int} (h : (addF a b c d).2.2 = true) : bothGood a b c d = true ∧ goodFrac (addF a b c d).1 (addF a b c d).2.1 = true ∧ (addF a b c d) = (lowNum (a * d + c * b) (b * d), lowDen (a * d + c * b) (b * d), true) := by
  unfold addF at h ⊢
  split at h
  case isTrue hh =>
    obtain ⟨h1, h2⟩ := fits_true h
    rw [if_pos hh, h2]; exact ⟨hh, h1, rfl⟩
  case isFalse => simp at h

def bump (flow counts : List Int) : List Int := counts.set (nextOf flow counts) (counts[nextOf flow counts]! + 1)
def shareUp (flow : List Int) : Nat → List Int
  | 0 => List.replicate flow.length 1
  | i + 1 => bump flow (shareUp flow i)
theorem bump_length (flow counts : List Int) : (bump flow counts).length = counts.length := by simp [bump]
theorem shareUp_length (flow : List Int) (i : Nat) : (shareUp flow i).length = flow.length := by
  induction i with
  | zero => simp [shareUp]
  | succ i ih => rw [shareUp, bump_length, ih]
theorem shareUp_bounds (flow : List Int) (h0 : 0 < flow.length) (i : Nat) : ∀ x ∈ shareUp flow i, 1 ≤ x ∧ x ≤ 1 + (i : Int) := by
  induction i with
  | zero => intro x hx; rw [shareUp] at hx; have := List.eq_of_mem_replicate hx; omega
  | succ i ih =>
    intro x hx
    rw [shareUp, bump] at hx
    rcases List.mem_or_eq_of_mem_set hx with h | h
    · have := ih x h; omega
    · have hn : nextOf flow (shareUp flow i) < (shareUp flow i).length := by rw [shareUp_length]; exact nextOf_lt _ _ h0
      have := ih _ (List.getElem_mem hn)
      rw [getElem!_pos (shareUp flow i) _ hn] at h; omega
def shareOf (flow : List Int) (places : Int) : List Int := shareUp flow (places - flow.length).toNat
def kindsOk (flow : List Int) (places : Int) : Bool := flowOk flow && (decide ((flow.length : Int) ≤ places) && decide (places ≤ 40))

theorem spec_l4Share_ev (flow : List Int) (places : Int) (h1 : 1 ≤ flow.length ∧ flow.length ≤ 8) (hf : ∀ x ∈ flow, 1 ≤ x ∧ x ≤ 30) (hp : (flow.length : Int) ≤ places ∧ places ≤ 40) :
    Ev (fun k => spec_l4Share.f k flow places) (shareOf flow places) := by
  unfold spec_l4Share.f
  refine ev_up flow.length (fun k i => spec_l4Share.l0 k flow places (List.replicate i 1) (flow.length : Int) (i : Int)) _ (fun _ => True) trivial ?_ ?_
  · intro _
    refine Ev.succ ?_
    simp only [spec_l4Share.l0]
    refine Ev.neg (by omega) ?_
    have hm : ((places - flow.length).toNat : Int) = places - flow.length := by omega
    rw [show List.replicate flow.length (1 : Int) = shareUp flow 0 from rfl]
    have key := ev_up (places - flow.length).toNat (fun k i => spec_l4Share.l1 k flow places (shareUp flow i) ((flow.length : Int) + (i : Int))) (shareOf flow places) (fun _ => True) trivial ?_ ?_
    · simpa using key
    · intro _
      refine Ev.succ ?_
      simp only [spec_l4Share.l1]
      exact Ev.neg (by omega) (Ev.now _)
    · intro i hi _ hn
      refine Ev.succ ?_
      simp only [spec_l4Share.l1]
      have hc := shareUp_bounds flow (by omega) i
      have hl := shareUp_length flow i
      have hx : nextOf flow (shareUp flow i) < (shareUp flow i).length := by rw [hl]; exact nextOf_lt _ _ (by omega)
      have hb := hc _ (List.getElem_mem hx)
      refine Ev.pos (by omega) (Ev.bind (spec_l4Next_ev flow (shareUp flow i) (by omega) hl hf (fun x hx => by have := hc x hx; omega)) (Ev.pos (by omega) (Ev.pos (lt_len hx) ?_)))
      rw [rd_nat _ _ hx, toNat_nat, w64 (x := _ + 1) (by omega) (by omega), w64 (x := _ + 1) (by omega) (by omega)]
      have hn' := hn trivial
      rw [shareUp, bump, getElem!_pos (shareUp flow i) _ hx] at hn'
      rw [show (flow.length : Int) + (i : Int) + 1 = (flow.length : Int) + ((i + 1 : Nat) : Int) by omega]
      exact hn'
  · intro i hi _ hn
    refine Ev.succ ?_
    simp only [spec_l4Share.l0]
    refine Ev.pos (by omega) (Ev.pos (by rw [List.length_replicate]; omega) ?_)
    rw [w64 (by omega) (by omega), show List.replicate i (1 : Int) ++ [1] = List.replicate (i + 1) 1 by rw [List.replicate_succ']]
    exact hn trivial

theorem impl_shareOut_ev (flow : List Int) (places : Int) (h1 : 1 ≤ flow.length ∧ flow.length ≤ 8) (hf : ∀ x ∈ flow, 1 ≤ x ∧ x ≤ 30) (hp : (flow.length : Int) ≤ places ∧ places ≤ 40) :
    Ev (fun k => impl_shareOut.f k flow places) (shareOf flow places) := by
  unfold impl_shareOut.f
  have hr : slices_Repeat_int_int.f [1] (flow.length : Int) = some (shareUp flow 0) := by
    simp only [slices_Repeat_int_int.f]; rw [if_pos (by omega), toNat_nat]; rfl
  refine Ev.bind0 hr ?_
  rw [w64 (by omega) (by omega)]
  have hm : ((places - flow.length).toNat : Int) = places - flow.length := by omega
  rw [← hm]
  refine ev_up (places - flow.length).toNat (fun k i => impl_shareOut.l0 k flow (shareUp flow i) ((places - flow.length).toNat : Int) (i : Int)) _ (fun _ => True) trivial ?_ ?_
  · intro _
    refine Ev.succ ?_
    simp only [impl_shareOut.l0]
    exact Ev.neg (by omega) (Ev.now _)
  · intro i hi _ hn
    refine Ev.succ ?_
    simp only [impl_shareOut.l0]
    have hc := shareUp_bounds flow (by omega) i
    have hl := shareUp_length flow i
    have hx : nextOf flow (shareUp flow i) < (shareUp flow i).length := by rw [hl]; exact nextOf_lt _ _ (by omega)
    have hb := hc _ (List.getElem_mem hx)
    refine Ev.pos (by omega) (Ev.bind (impl_next_ev flow (shareUp flow i) (by omega) hl hf (fun x hx => by have := hc x hx; omega)) (Ev.pos (by omega) (Ev.pos (lt_len hx) ?_)))
    rw [rd_nat _ _ hx, toNat_nat, w64 (x := _ + 1) (by omega) (by omega), w64 (x := _ + 1) (by omega) (by omega)]
    have hn' := hn trivial
    rw [shareUp, bump, getElem!_pos (shareUp flow i) _ hx] at hn'
    exact hn'

theorem spec_GoodKinds_ev (flow : List Int) (places : Int) (h : flow.length ≤ 1048576) : Ev (fun k => spec_GoodKinds.f k flow places) (kindsOk flow places) := by
  unfold spec_GoodKinds.f kindsOk
  refine Ev.bind (spec_l4Flow_ev flow (by omega)) ?_
  refine Ev.ite (fun hc => ?_) (fun hc => ?_)
  · rw [hc]; exact Ev.bind0 (spec_l1In_eq _ _ _) (by simpa using Ev.now _)
  · rw [Bool.eq_false_iff.mpr hc]; exact Ev.now _
theorem spec_ShareOut_ev (flow : List Int) (places : Int) (h : flow.length ≤ 1048576) : Ev (fun k => spec_ShareOut.f k flow places) (if kindsOk flow places = true then (shareOf flow places, true) else ([], false)) := by
  unfold spec_ShareOut.f
  refine Ev.bind (spec_GoodKinds_ev flow places h) ?_
  refine Ev.ite (fun hc => ?_) (fun hc => ?_)
  · rw [if_pos hc]
    simp only [kindsOk, Bool.and_eq_true, decide_eq_true_eq] at hc
    have hk := (flowOk_iff flow).mp hc.1
    exact Ev.bind (spec_l4Share_ev flow places hk.1 hk.2 hc.2) (Ev.now _)
  · rw [if_neg hc]; exact Ev.now _

theorem impl_GoodKinds_ev (flow : List Int) (places : Int) (h : flow.length ≤ 1048576) : Ev (fun k => impl_GoodKinds.f k flow places) (kindsOk flow places) := by
  unfold impl_GoodKinds.f kindsOk
  refine Ev.bind (impl_isFlow_ev flow (by omega)) ?_
  refine Ev.ite (fun hc => ?_) (fun hc => ?_)
  · rw [hc]; exact Ev.bind0 (impl_within_eq _ _ _) (by simpa using Ev.now _)
  · rw [Bool.eq_false_iff.mpr hc]; exact Ev.now _
theorem impl_ShareOut_ev (flow : List Int) (places : Int) (h : flow.length ≤ 1048576) : Ev (fun k => impl_ShareOut.f k flow places) (if kindsOk flow places = true then (shareOf flow places, true) else ([], false)) := by
  unfold impl_ShareOut.f
  refine Ev.bind (impl_GoodKinds_ev flow places h) ?_
  refine Ev.ite (fun hc => ?_) (fun hc => ?_)
  · rw [if_pos hc]
    simp only [kindsOk, Bool.and_eq_true, decide_eq_true_eq] at hc
    have hk := (flowOk_iff flow).mp hc.1
    exact Ev.bind (impl_shareOut_ev flow places hk.1 hk.2 hc.2) (Ev.now _)
  · rw [if_neg hc]; exact Ev.now _
theorem shareOf_length (flow : List Int) (places : Int) : (if kindsOk flow places = true then (shareOf flow places, true) else (([] : List Int), false)).1.length ≤ 8 := by
  split
  · rename_i hc
    simp only [kindsOk, Bool.and_eq_true, decide_eq_true_eq] at hc
    have hk := (flowOk_iff flow).mp hc.1
    dsimp only; unfold shareOf; rw [shareUp_length]; omega
  · simp

def upFrom (k : Int) (n : Nat) : List Int := (List.range n).map fun (j : Nat) => k + (j : Int)

theorem w64n {i n : Nat} (h : i < n) (hn : n ≤ 4611686018427387904) : wrap64 ((i : Int) + 1) = ((i + 1 : Nat) : Int) := by rw [w64 (by omega) (by omega)]; rfl
def wayOf (a b c d : Int) : Int := if a = c then ((b - d).natAbs : Int) else 3 * ((a - c).natAbs : Int) + (if 40 - (b + d) < b + d then 40 - (b + d) else b + d)
def spotOk (a b : Int) : Bool := (decide (0 ≤ a) && decide (a ≤ 9)) && (decide (0 ≤ b) && decide (b ≤ 20))

def jn (E : List (Nat × Nat)) (T : Nat → Bool) : Nat → Nat → Prop
  | 0, u => T u = true
  | n + 1, u => T u = true ∨ ∃ v, ((u, v) ∈ E ∨ (v, u) ∈ E) ∧ jn E T n v
def Jn (E : List (Nat × Nat)) (T : Nat → Bool) (u : Nat) : Prop := ∃ n, jn E T n u
theorem Jn.base {E : List (Nat × Nat)} {T : Nat → Bool} {u : Nat} (h : T u = true) : Jn E T u := ⟨0, h⟩
theorem Jn.step {E : List (Nat × Nat)} {T : Nat → Bool} {u v : Nat} (h : (u, v) ∈ E ∨ (v, u) ∈ E) (k : Jn E T v) : Jn E T u := by
  obtain ⟨n, hn⟩ := k; exact ⟨n + 1, .inr ⟨v, h, hn⟩⟩
theorem Jn.rule {E : List (Nat × Nat)} {T : Nat → Bool} {P : Nat → Prop} (hb : ∀ u, T u = true → P u)
    (hs : ∀ u v, ((u, v) ∈ E ∨ (v, u) ∈ E) → Jn E T v → P v → P u) {u : Nat} (h : Jn E T u) : P u := by
  obtain ⟨n, hn⟩ := h
  induction n generalizing u with
  | zero => exact hb u hn
  | succ n ih =>
    rcases hn with h | ⟨v, h, hv⟩
    · exact hb u h
    · exact hs u v h ⟨n, hv⟩ (ih hv)
theorem Jn.trans {E E' : List (Nat × Nat)} {T T' : Nat → Bool} {u : Nat} (h : Jn E T u) (k : ∀ x, T x = true → Jn E' T' x) (hE : ∀ e ∈ E, e ∈ E') : Jn E' T' u :=
  h.rule k fun _ _ he _ p => Jn.step (he.imp (hE _) (hE _)) p
theorem Jn.move {E : List (Nat × Nat)} {J : Nat → Bool} {v x s : Nat} {e : Nat × Nat} (hxs : e = (x, s) ∨ e = (s, x)) (hs : J s = true)
    (hj : Jn (E.erase e) (fun u => decide (u = v)) x) {u : Nat} (h : Jn E J u) : Jn (E.erase e) (fun y => J y || decide (y = v)) u := by
  have hx : Jn (E.erase e) (fun y => J y || decide (y = v)) x := hj.trans (fun y hy => Jn.base (by simp at hy; simp [hy])) (fun _ h => h)
  have hss : Jn (E.erase e) (fun y => J y || decide (y = v)) s := Jn.base (by simp [hs])
  refine h.rule (P := fun u => Jn (E.erase e) (fun y => J y || decide (y = v)) u) (fun u hu => Jn.base (by simp [hu])) ?_
  intro u w hf _ ih
  by_cases h1 : (u, w) = e
  · rcases hxs with h2 | h2 <;> rw [h2] at h1 <;> injection h1 with h3 h4
    · rw [h3]; exact hx
    · rw [h3]; exact hss
  · by_cases h2 : (w, u) = e
    · rcases hxs with h3 | h3 <;> rw [h3] at h2 <;> injection h2 with h4 h5
      · rw [h5]; exact hss
      · rw [h5]; exact hx
    · refine Jn.step (v := w) ?_ ih
      rcases hf with hf | hf
      · exact .inl ((List.mem_erase_of_ne h1).mpr hf)
      · exact .inr ((List.mem_erase_of_ne h2).mpr hf)
def sumW (w : Nat → Nat → Int) (E : List (Nat × Nat)) : Int := (E.map fun e => w e.1 e.2).sum
def nearUp (w : Nat → Nat → Int) (J : Nat → Bool) (i : Nat) : Nat → Option Nat
  | 0 => none
  | k + 1 => match nearUp w J i k with
    | none => if J k = true then some k else none
    | some m => if J k = true ∧ w i k < w i m then some k else some m
def pickUp (w : Nat → Nat → Int) (J : Nat → Bool) (n : Nat) : Nat → Option (Nat × Nat)
  | 0 => none
  | i + 1 => match pickUp w J n i with
    | none => if J i = true then none else (nearUp w J i n).map fun m => (i, m)
    | some p => if J i = true then some p else match nearUp w J i n with
      | none => some p
      | some m => if w i m < w p.1 p.2 then some (i, m) else some p

def updP (w : Nat → Nat → Int) (J : Nat → Bool) (i : Nat) (p : Option (Nat × Nat)) (m : Option Nat) : Option (Nat × Nat) :=
  if J i = true then p else match m with
    | none => p
    | some m => match p with
      | none => some (i, m)
      | some q => if w i m < w q.1 q.2 then some (i, m) else some q
def jd (J : List Bool) (m : Nat) : Bool := rdOf false J (m : Int)
def primSt (w : Nat → Nat → Int) (n : Nat) : Nat → List Int × Int × List Bool
  | 0 => (List.replicate n (-1), 0, (List.replicate n false).set 0 true)
  | t + 1 => match pickUp w (jd (primSt w n t).2.2) n n with
    | none => primSt w n t
    | some q => ((primSt w n t).1.set q.1 (q.2 : Int), (primSt w n t).2.1 + w q.1 q.2, (primSt w n t).2.2.set q.1 true)
def sumTo (f : Nat → Int) : Nat → Int
  | 0 => 0
  | n + 1 => sumTo f n + f n
theorem sumTo_congr {f g : Nat → Int} {n : Nat} (h : ∀ i, i < n → f i = g i) : sumTo f n = sumTo g n := by
  induction n with
  | zero => rfl
  | succ n ih => rw [sumTo, sumTo, ih (fun i hi => h i (by omega)), h n (by omega)]
theorem sumTo_one {f g : Nat → Int} {n v : Nat} (hv : v < n) (h : ∀ i, i < n → i ≠ v → f i = g i) : sumTo f n = sumTo g n + (f v - g v) := by
  induction n with
  | zero => omega
  | succ n ih =>
    rw [sumTo, sumTo]
    by_cases e : v = n
    · subst e; rw [sumTo_congr (fun i hi => h i (by omega) (by omega))]; omega
    · rw [ih (by omega) (fun i hi hn => h i (by omega) hn), h n (by omega) (by omega)]; omega
theorem sumTo_bounds {f : Nat → Int} {n : Nat} {lo hi : Int} (h : ∀ i, i < n → lo ≤ f i ∧ f i ≤ hi) : lo * n ≤ sumTo f n ∧ sumTo f n ≤ hi * n := by
  induction n with
  | zero => simp [sumTo]
  | succ n ih =>
    have h1 := ih (fun i hi => h i (by omega))
    have h2 := h n (by omega)
    have e1 : lo * ((n + 1 : Nat) : Int) = lo * n + lo := by push_cast; rw [Int.mul_add]; simp
    have e2 : hi * ((n + 1 : Nat) : Int) = hi * n + hi := by push_cast; rw [Int.mul_add]; simp
    rw [e1, e2, sumTo]; omega
structure PrimOk (w : Nat → Nat → Int) (n : Nat) (E : List (Nat × Nat)) (t : Nat) (s : List Int × Int × List Bool) : Prop where
  l1 : s.1.length = n
  l2 : s.2.2.length = n
  cnt : s.2.2.count true = t + 1
  j0 : jd s.2.2 0 = true
  o0 : rd s.1 0 = -1
  up : ∀ i, i < n → i ≠ 0 → jd s.2.2 i = true → 0 ≤ rd s.1 i ∧ rd s.1 i < n ∧ rd s.1 i ≠ i
  all : ∀ i, i < n → -1 ≤ rd s.1 i ∧ rd s.1 i < n
  sum : s.2.1 = sumTo (fun i => if jd s.2.2 i = true ∧ i ≠ 0 then w i (rd s.1 i).toNat else 0) n
  pot : ∃ E', (∀ e ∈ E', e ∈ E) ∧ sumW w E' + s.2.1 ≤ sumW w E ∧ ∀ u, u < n → Jn E' (jd s.2.2) u
theorem rd_set (l : List Int) (v : Nat) (x : Int) (i : Nat) (h : v < l.length) : rd (l.set v x) i = if i = v then x else rd l i := by
  by_cases hi : i < l.length
  · rw [rd_nat _ _ (by rw [List.length_set]; exact hi), rd_nat _ _ hi, List.getElem_set]
    by_cases e : v = i
    · rw [if_pos e, if_pos e.symm]
    · rw [if_neg e, if_neg (fun h2 => e h2.symm)]
  · rw [if_neg (by omega)]; simp only [rd, toNat_nat]
    rw [List.getD_eq_getElem?_getD, List.getD_eq_getElem?_getD, List.getElem?_eq_none (by rw [List.length_set]; omega), List.getElem?_eq_none (by omega)]

def isqUp (n : Int) : Nat → Int
  | 0 => 0
  | k + 1 => if ((k : Int) + 1) * ((k : Int) + 1) ≤ n then (k : Int) + 1 else isqUp n k
def isq (n : Int) : Int := isqUp n n.toNat
def goodB (a b c d : Int) : Bool := bothGood a b c d && (decide (0 ≤ a) && !decide (c * b < a * d))

def withinB (x y a b c d : Int) : Bool × Bool := if goodFrac x y = true ∧ goodB a b c d = true then (!decide (x * b < a * y) && !decide (c * y < x * d), true) else (false, false)

def rootB (n p : Int) : Int × Int × Int × Int × Bool :=
  if (0 ≤ n ∧ n ≤ 1000000000000) ∧ (1 ≤ p ∧ p ≤ 1000) ∧ n ≤ 1000000000000 / (p * p) then
    (lowNum (isq (n * p * p)) p, lowDen (isq (n * p * p)) p, lowNum (if isq (n * p * p) * isq (n * p * p) = n * p * p then isq (n * p * p) else isq (n * p * p) + 1) p, lowDen (if isq (n * p * p) * isq (n * p * p) = n * p * p then isq (n * p * p) else isq (n * p * p) + 1) p, true)
  else (0, 0, 0, 0, false)
def losOf (l : List S69) : List (Int × Int) := l.map fun b => (b.f0.f0, b.f0.f1)
def hisOf (l : List S69) : List (Int × Int) := l.map fun b => (b.f1.f0, b.f1.f1)
def sumB (l : List S69) : Int × Int × Int × Int × Bool :=
  if l.length ≤ 20 ∧ (l.all fun b => goodB b.f0.f0 b.f0.f1 b.f1.f0 b.f1.f1) = true ∧ (sumF (losOf l) (0, 1)).2.2 = true ∧ (sumF (hisOf l) (0, 1)).2.2 = true then
    ((sumF (losOf l) (0, 1)).1, (sumF (losOf l) (0, 1)).2.1, (sumF (hisOf l) (0, 1)).1, (sumF (hisOf l) (0, 1)).2.1, true)
  else (0, 0, 0, 0, false)

theorem low_lt_iff {a b c d : Int} (hb : 0 < b) (hd : 0 < d) : lowNum a b * lowDen c d < lowNum c d * lowDen a b ↔ a * d < c * b := by
  have x1 := low_cross a b hb
  have x2 := low_cross c d hd
  have p1 := (low_den_pos a b hb).1
  have p2 := (low_den_pos c d hd).1
  generalize lowNum a b = p at *
  generalize lowDen a b = q at *
  generalize lowNum c d = r at *
  generalize lowDen c d = s at *
  have hbd : 0 < b * d := Int.mul_pos hb hd
  have hqs : 0 < q * s := Int.mul_pos (by omega) (by omega)
  have e1 : p * s * (b * d) = a * d * (q * s) := by
    calc p * s * (b * d) = (p * b) * (s * d) := by rw [Int.mul_assoc, Int.mul_assoc, Int.mul_left_comm s b d]
      _ = (a * q) * (s * d) := by rw [x1]
      _ = a * d * (q * s) := by rw [Int.mul_assoc, Int.mul_assoc, Int.mul_comm s d, Int.mul_left_comm q d s]
  have e2 : r * q * (b * d) = c * b * (q * s) := by
    calc r * q * (b * d) = (r * d) * (q * b) := by rw [Int.mul_comm b d, Int.mul_assoc, Int.mul_assoc, Int.mul_left_comm q d b]
      _ = (c * s) * (q * b) := by rw [x2]
      _ = c * b * (q * s) := by rw [Int.mul_assoc, Int.mul_assoc, Int.mul_comm q b, Int.mul_left_comm s b q, Int.mul_comm s q]
  constructor
  · intro h
    have h2 : p * s * (b * d) < r * q * (b * d) := Int.mul_lt_mul_of_pos_right h hbd
    rw [e1, e2] at h2
    exact Int.lt_of_mul_lt_mul_right h2 (by omega)
  · intro h
    have h2 : a * d * (q * s) < c * b * (q * s) := Int.mul_lt_mul_of_pos_right h hqs
    rw [← e1, ← e2] at h2
    exact Int.lt_of_mul_lt_mul_right h2 (by omega)
def csq (n : Int) : Int := if isq n * isq n = n then isq n else isq n + 1
def rootsL (flow : List Int) (p : Int) : Int := (flow.map fun f => isq (f * p * p)).sum
def rootsH (flow : List Int) (p : Int) : Int := (flow.map fun f => csq (f * p * p)).sum
def leastB (flow : List Int) (room p : Int) : Int × Int × Int × Int × Bool :=
  if flowOk flow = true ∧ (8 ≤ room ∧ room ≤ 1000) ∧ (1 ≤ p ∧ p ≤ 100) then
    (lowNum (rootsL flow p * rootsL flow p) (p * p * room), lowDen (rootsL flow p * rootsL flow p) (p * p * room), lowNum (rootsH flow p * rootsH flow p) (p * p * room), lowDen (rootsH flow p * rootsH flow p) (p * p * room), true)
  else (0, 0, 0, 0, false)
def bndOf (p f : Int) : S69 := ⟨⟨lowNum (isq (f * p * p)) p, lowDen (isq (f * p * p)) p⟩, ⟨lowNum (csq (f * p * p)) p, lowDen (csq (f * p * p)) p⟩⟩
theorem cur_flow (l : List Int) (a s : Int) (hl : bytesOk l) (ha : 0 ≤ a ∧ a ≤ 4611686018427380000) :
    ∃ (r : List Int) (a' s' : Int), Ev (fun k => spec_l1Cur_flow.f k l a s) (r, a', s') ∧ r.length ≤ 100 ∧ a ≤ a' ∧ a' ≤ a + 1000 := by
  have loop : ∀ (n : Nat) (x : List Int) (a s : Int), x.length + n ≤ 100 → (0 ≤ a ∧ a + 2 * n + 10 ≤ 4611686018427387000) →
      ∃ (r : List Int) (a' s' : Int), Ev (fun k => spec_l1Cur_flow.l0 k x (n : Int) l a s) (r, a', s') ∧ r.length ≤ 100 ∧ a ≤ a' ∧ a' ≤ a + 2 * n + 10 := by
    intro n
    induction n with
    | zero =>
      intro x a s hx ha
      have step : ∀ {r : List Int × Int × Int}, Ev (fun k => if (x.length : Int) > 0 then ((spec_l1Cur_one.f l a s 30).bind fun bt119 => (if bt119.1 = true then ((spec_l1Cur_among.f l bt119.2.1 bt119.2.2 (([0, 31] : List Int))).bind fun bt125 => (if 0 < (x.length : Int) then (some ((x.set (0 : Int).toNat bt125.1), bt125.2.1, bt125.2.2)) else (none))) else (some (x, bt119.2.1, bt119.2.2)))) else (some (x, a, s))) r → Ev (fun k => spec_l1Cur_flow.l0 k x ((0 : Nat) : Int) l a s) r := fun h => by
        refine Ev.succ ?_; simp only [spec_l1Cur_flow.l0]; exact Ev.neg (by omega) h
      by_cases h0 : (x.length : Int) > 0
      · obtain ⟨b, a1, s1, e1, h1⟩ := cur_one l a s 30 hl (by omega)
        cases b with
        | true =>
          obtain ⟨m, a2, s2, e2, h2, h3⟩ := cur_among l a1 s1 [0, 31] hl (by omega) (by simp)
          exact ⟨_, a2, s2, step (Ev.pos h0 (Ev.bind0 e1 (Ev.pos rfl (Ev.bind0 e2 (Ev.pos (by omega) (Ev.now _)))))), by rw [List.length_set]; omega, by omega, by omega⟩
        | false => exact ⟨x, a1, s1, step (Ev.pos h0 (Ev.bind0 e1 (Ev.neg (by simp) (Ev.now _)))), by omega, by omega, by omega⟩
      · exact ⟨x, a, s, step (Ev.neg h0 (Ev.now _)), by omega, by omega, by omega⟩
    | succ n ih =>
      intro x a s hx ha
      obtain ⟨p, a1, s1, e, h0, h1, h2⟩ := cur_pick l a s 30 hl (by omega)
      obtain ⟨r, a2, s2, hr, h3, h4, h5⟩ := ih (x ++ [wrap64 (1 + p)]) a1 s1 (by simp; omega) (by omega)
      refine ⟨r, a2, s2, Ev.succ ?_, h3, by omega, by omega⟩
      simp only [spec_l1Cur_flow.l0]
      refine Ev.pos (by omega) (Ev.bind0 e (Ev.pos (by omega) ?_))
      rw [w64 (x := ((n + 1 : Nat) : Int) - 1) (by omega) (by omega), show ((n + 1 : Nat) : Int) - 1 = (n : Int) by omega]
      exact hr
  unfold spec_l1Cur_flow.f
  obtain ⟨n, a1, s1, e1, h0, h1, h2⟩ := cur_pick l a s 4 hl (by omega)
  obtain ⟨b, a2, s2, e2, h3⟩ := cur_one l a1 s1 12 hl (by omega)
  cases b with
  | true =>
    obtain ⟨m, a3, s3, e3, h4, h5⟩ := cur_among l a2 s2 [0, 8, 9] hl (by omega) (by simp)
    simp only [List.mem_cons, List.not_mem_nil, or_false] at h4
    obtain ⟨r, a4, s4, hr, h6, h7, h8⟩ := loop m.toNat [] a3 s3 (by simp; omega) (by omega)
    rw [show (m.toNat : Int) = m by omega] at hr
    refine ⟨r, a4, s4, Ev.bind0 e1 (Ev.bind0 e2 (Ev.pos rfl (Ev.bind0 e3 (Ev.succ ?_)))), h6, by omega, by omega⟩
    simp only [spec_l1Cur_flow.j0]; exact hr
  | false =>
    obtain ⟨r, a4, s4, hr, h6, h7, h8⟩ := loop (1 + n).toNat [] a2 s2 (by simp; omega) (by omega)
    rw [show ((1 + n).toNat : Int) = 1 + n by omega] at hr
    refine ⟨r, a4, s4, Ev.bind0 e1 (Ev.bind0 e2 (Ev.neg (by simp) (Ev.succ ?_))), h6, by omega, by omega⟩
    simp only [spec_l1Cur_flow.j0]; rw [w64 (by omega) (by omega)]; exact hr

theorem ev_all {β : Type} (n : Nat) (P : Nat → Bool) (g : Nat → Nat → Option β) (yes no : β)
    (hs : ∀ r i, i < n → P i = true → Ev (fun k => g k (i + 1)) r → Ev (fun k => g k i) r) (hno : ∀ i, i < n → P i = false → Ev (fun k => g k i) no)
    (hyes : (∀ i, i < n → P i = true) → Ev (fun k => g k n) yes) (b : Bool) (hb : b = true ↔ ∀ i, i < n → P i = true) : Ev (fun k => g k 0) (if b = true then yes else no) := by
  by_cases h : ∀ i, i < n → P i = true
  · rw [if_pos (hb.mpr h)]
    exact ev_up n g yes (fun _ => True) trivial (fun _ => hyes h) fun i hi _ hn => hs _ i hi (h i hi) (hn trivial)
  · rw [if_neg (fun hx => h (hb.mp hx))]
    have h1 : ∃ i, i < n ∧ P i = false := by
      refine Classical.byContradiction fun hc => h fun i hi => ?_
      cases hp : P i with
      | true => rfl
      | false => exact absurd ⟨i, hi, hp⟩ hc
    obtain ⟨m, hm, hmin⟩ := exists_least h1
    refine ev_up m g no (fun _ => True) trivial (fun _ => hno m hm.1 hm.2) fun i hi _ hn => hs _ i (by omega) ?_ (hn trivial)
    cases hp : P i with
    | true => rfl
    | false => have := hmin i ⟨by omega, hp⟩; omega
def allTo (P : Nat → Bool) (n : Nat) : Bool := (List.range n).all P
theorem allTo_iff (P : Nat → Bool) (n : Nat) : allTo P n = true ↔ ∀ i, i < n → P i = true := by simp [allTo, List.all_eq_true]

def KK : Int := 219060189739591200
def kd (c : Int) : Int := KK / c
def gK (c : Int) : Int := kd c - kd (c + 1)
theorem kd_nat : ∀ n : Nat, n < 42 → 1 ≤ n → (n : Int) * kd n = KK ∧ 0 < kd n := by decide +kernel
theorem kd_mul {c : Int} (h : 1 ≤ c ∧ c ≤ 41) : c * kd c = KK ∧ 0 < kd c := by
  have := kd_nat c.toNat (by omega) (by omega)
  rwa [show ((c.toNat : Nat) : Int) = c by omega] at this
theorem gK_nat : ∀ n : Nat, n < 40 → 1 ≤ n → gK ((n : Int) + 1) ≤ gK n := by decide +kernel
theorem gK_mono {c : Int} (h : 1 ≤ c ∧ c ≤ 39) : gK (c + 1) ≤ gK c := by
  have := gK_nat c.toNat (by omega) (by omega)
  rwa [show ((c.toNat : Nat) : Int) = c by omega] at this
theorem gK_mul {c : Int} (h : 1 ≤ c ∧ c ≤ 40) : gK c * (c * (c + 1)) = KK := by
  have h1 := (kd_mul (c := c) (by omega)).1
  have h2 := (kd_mul (c := c + 1) (by omega)).1
  unfold gK
  rw [Int.sub_mul]
  have e1 : kd c * (c * (c + 1)) = KK * (c + 1) := by rw [← Int.mul_assoc, Int.mul_comm (kd c), h1]
  have e2 : kd (c + 1) * (c * (c + 1)) = KK * c := by rw [Int.mul_comm c, ← Int.mul_assoc, Int.mul_comm (kd (c + 1)), h2]
  rw [e1, e2, Int.mul_add]; omega
theorem KK_pos : 0 < KK := by decide
theorem gain_lt_iff {f c g d : Int} (hc : 1 ≤ c ∧ c ≤ 40) (hd : 1 ≤ d ∧ d ≤ 40) : gn f c * gd g d < gn g d * gd f c ↔ f * gK c < g * gK d := by
  have p1 := gain_den c hc
  have p2 := gain_den d hd
  unfold gn gd
  rw [low_lt_iff (by omega) (by omega)]
  have e1 : f * gK c * (c * (c + 1) * (d * (d + 1))) = f * (d * (d + 1)) * KK := by
    rw [← gK_mul hc]
    generalize c * (c + 1) = P
    generalize d * (d + 1) = Q
    rw [Int.mul_assoc, Int.mul_assoc]; congr 1
    rw [← Int.mul_assoc, Int.mul_comm Q]
  have e2 : g * gK d * (c * (c + 1) * (d * (d + 1))) = g * (c * (c + 1)) * KK := by
    rw [← gK_mul hd]
    generalize c * (c + 1) = P
    generalize d * (d + 1) = Q
    rw [Int.mul_assoc, Int.mul_assoc]; congr 1
    rw [Int.mul_left_comm]
  have hp : 0 < c * (c + 1) * (d * (d + 1)) := Int.mul_pos (by omega) (by omega)
  constructor
  · intro h
    have h2 : f * (d * (d + 1)) * KK < g * (c * (c + 1)) * KK := Int.mul_lt_mul_of_pos_right h KK_pos
    rw [← e1, ← e2] at h2
    exact Int.lt_of_mul_lt_mul_right h2 (by omega)
  · intro h
    have h2 : f * gK c * (c * (c + 1) * (d * (d + 1))) < g * gK d * (c * (c + 1) * (d * (d + 1))) := Int.mul_lt_mul_of_pos_right h hp
    rw [e1, e2] at h2
    exact Int.lt_of_mul_lt_mul_right h2 (Int.le_of_lt KK_pos)

def Stab (n : Nat) (f c : Nat → Int) : Prop := ∀ i k, i < n → k < n → i ≠ k → 1 < c i → f k * gK (c k) ≤ f i * gK (c i - 1)
theorem arg_max (n : Nat) (G : Nat → Int) (hn : 0 < n) : ∃ m, m < n ∧ ∀ k, k < n → G k ≤ G m := by
  induction n with
  | zero => omega
  | succ n ih =>
    rcases Nat.eq_zero_or_pos n with h0 | h0
    · exact ⟨0, by omega, fun k hk => by rw [show k = 0 by omega]; exact Int.le_refl _⟩
    · obtain ⟨m, hm, hmax⟩ := ih h0
      rcases Int.lt_or_le (G m) (G n) with h1 | h1
      · exact ⟨n, by omega, fun k hk => by
          rcases Nat.lt_or_ge k n with h2 | h2
          · have := hmax k h2; omega
          · rw [show k = n by omega]; exact Int.le_refl _⟩
      · exact ⟨m, by omega, fun k hk => by
          rcases Nat.lt_or_ge k n with h2 | h2
          · exact hmax k h2
          · rw [show k = n by omega]; exact h1⟩
theorem gK_le {c x : Int} (h1 : 1 ≤ c) (h2 : c ≤ x) (h3 : x ≤ 40) : gK x ≤ gK c := by
  have : ∀ d : Nat, c + d ≤ 40 → gK (c + d) ≤ gK c := by
    intro d
    induction d with
    | zero => intro _; simp
    | succ d ih =>
      intro hd
      have h4 := ih (by omega)
      have h5 := gK_mono (c := c + d) (by omega)
      rw [show c + ((d + 1 : Nat) : Int) = c + d + 1 by omega]; omega
  have := this (x - c).toNat (by omega)
  rwa [show c + ((x - c).toNat : Int) = x by omega] at this
theorem priced {f c x L : Int} (hf : 0 ≤ f) (hc : 1 ≤ c ∧ c ≤ 40) (hx : 1 ≤ x ∧ x ≤ 40) (h1 : f * gK c ≤ L) (h2 : 1 < c → L ≤ f * gK (c - 1)) : f * kd c + L * c ≤ f * kd x + L * x := by
  have up : ∀ d : Nat, c + d ≤ 40 → f * kd c + L * c ≤ f * kd (c + d) + L * (c + d) := by
    intro d
    induction d with
    | zero => intro _; simp
    | succ d ih =>
      intro hd
      have h4 := ih (by omega)
      have h5 := gK_le (c := c) (x := c + d) hc.1 (by omega) (by omega)
      have h6 := Int.mul_le_mul_of_nonneg_left h5 hf
      have e : kd (c + d + 1) = kd (c + d) - gK (c + d) := by unfold gK; omega
      rw [show c + ((d + 1 : Nat) : Int) = c + d + 1 by omega, e, Int.mul_sub, Int.mul_add L (c + d) 1]; omega
  have down : ∀ d : Nat, 1 ≤ c - d → f * kd c + L * c ≤ f * kd (c - d) + L * (c - d) := by
    intro d
    induction d with
    | zero => intro _; simp
    | succ d ih =>
      intro hd
      have h4 := ih (by omega)
      have h5 := gK_le (c := c - d - 1) (x := c - 1) (by omega) (by omega) (by omega)
      have h6 := Int.mul_le_mul_of_nonneg_left h5 hf
      have h7 := h2 (by omega)
      have e : kd (c - d - 1) = kd (c - d) + gK (c - d - 1) := by unfold gK; rw [show c - d - 1 + 1 = c - d by omega]; omega
      rw [show c - ((d + 1 : Nat) : Int) = c - d - 1 by omega, e, Int.mul_add, Int.mul_sub L (c - d) 1]; omega
  rcases Int.le_total c x with h | h
  · have := up (x - c).toNat (by omega)
    rwa [show c + ((x - c).toNat : Int) = x by omega] at this
  · have := down (c - x).toNat (by omega)
    rwa [show c - ((c - x).toNat : Int) = x by omega] at this
theorem sumTo_add (f g : Nat → Int) (n : Nat) : sumTo (fun i => f i + g i) n = sumTo f n + sumTo g n := by
  induction n with
  | zero => rfl
  | succ n ih => simp only [sumTo, ih]; omega
theorem sumTo_mul (f : Nat → Int) (L : Int) (n : Nat) : sumTo (fun i => L * f i) n = L * sumTo f n := by
  induction n with
  | zero => simp [sumTo]
  | succ n ih => simp only [sumTo, ih, Int.mul_add]
theorem sumTo_le {f g : Nat → Int} {n : Nat} (h : ∀ i, i < n → f i ≤ g i) : sumTo f n ≤ sumTo g n := by
  induction n with
  | zero => exact Int.le_refl _
  | succ n ih => have := ih fun i hi => h i (by omega)
                 have := h n (by omega)
                 simp only [sumTo]; omega
def costN (n : Nat) (f c : Nat → Int) : Int := sumTo (fun i => f i * kd (c i)) n
theorem stab_opt {n : Nat} {f c d : Nat → Int} (hn : 0 < n) (hf : ∀ i, i < n → 0 ≤ f i) (hc : ∀ i, i < n → 1 ≤ c i ∧ c i ≤ 40) (hd : ∀ i, i < n → 1 ≤ d i ∧ d i ≤ 40) (hs : sumTo c n = sumTo d n) (h : Stab n f c) : costN n f c ≤ costN n f d := by
  obtain ⟨m, hm, hmax⟩ := arg_max n (fun k => f k * gK (c k)) hn
  have key : sumTo (fun i => f i * kd (c i) + f m * gK (c m) * c i) n ≤ sumTo (fun i => f i * kd (d i) + f m * gK (c m) * d i) n := by
    refine sumTo_le fun i hi => priced (hf i hi) (hc i hi) (hd i hi) (hmax i hi) fun h1 => ?_
    by_cases e : i = m
    · subst e
      have := gK_le (c := c i - 1) (x := c i) (by omega) (by omega) (hc i hi).2
      exact Int.mul_le_mul_of_nonneg_left this (hf i hi)
    · exact h i m hi hm e h1
  rw [sumTo_add, sumTo_add, sumTo_mul, sumTo_mul, hs] at key
  unfold costN; omega
theorem unstab {n : Nat} {f c : Nat → Int} (hc : ∀ i, i < n → 1 ≤ c i ∧ c i ≤ 40) (hs : sumTo c n ≤ 40) (h : ¬ Stab n f c) :
    ∃ d : Nat → Int, (∀ i, i < n → 1 ≤ d i ∧ d i ≤ 40) ∧ sumTo d n = sumTo c n ∧ costN n f d < costN n f c := by
  have : ∃ i k, i < n ∧ k < n ∧ i ≠ k ∧ 1 < c i ∧ f i * gK (c i - 1) < f k * gK (c k) := by
    refine Classical.byContradiction fun hno => h fun i k hi hk hik h1 => ?_
    rcases Int.lt_or_le (f i * gK (c i - 1)) (f k * gK (c k)) with h2 | h2
    · exact absurd ⟨i, k, hi, hk, hik, h1, h2⟩ hno
    · exact h2
  obtain ⟨i, k, hi, hk, hik, h1, h2⟩ := this
  have two : c i + c k ≤ 40 := by
    have e1 := sumTo_one (f := c) (g := fun j => if j = i then 0 else c j) hi (fun j _ hj => by rw [if_neg hj])
    have e2 := sumTo_one (f := fun j => if j = i then 0 else c j) (g := fun j => if j = i then 0 else if j = k then 0 else c j) hk (fun j _ hj => by rw [if_neg hj])
    have e3 := sumTo_bounds (f := fun j => if j = i then 0 else if j = k then 0 else c j) (n := n) (lo := 0) (hi := 40) (fun j hj => by have := hc j hj; split <;> (try split) <;> omega)
    rw [if_pos rfl] at e1
    rw [if_neg (fun h => hik h.symm), if_neg (fun h => hik h.symm), if_pos rfl] at e2
    omega
  refine ⟨fun j => if j = i then c i - 1 else if j = k then c k + 1 else c j, fun j hj => ?_, ?_, ?_⟩
  · have := hc j hj; have := hc k hk; dsimp only; split
    · omega
    · split <;> omega
  · have e1 := sumTo_one (f := fun j => if j = i then c i - 1 else if j = k then c k + 1 else c j) (g := fun j => if j = k then c k + 1 else c j) hi (fun j _ hj => by rw [if_neg hj])
    have e2 := sumTo_one (f := fun j => if j = k then c k + 1 else c j) (g := c) hk (fun j _ hj => by rw [if_neg hj])
    rw [if_pos rfl, if_neg hik] at e1
    rw [if_pos rfl] at e2
    omega
  · unfold costN
    have e1 := sumTo_one (f := fun j => f j * kd (if j = i then c i - 1 else if j = k then c k + 1 else c j)) (g := fun j => f j * kd (if j = k then c k + 1 else c j)) hi (fun j _ hj => by rw [if_neg hj])
    have e2 := sumTo_one (f := fun j => f j * kd (if j = k then c k + 1 else c j)) (g := fun j => f j * kd (c j)) hk (fun j _ hj => by rw [if_neg hj])
    rw [if_pos rfl, if_neg hik] at e1
    rw [if_pos rfl] at e2
    rw [e1, e2]
    have g1 : kd (c i - 1) = kd (c i) + gK (c i - 1) := by unfold gK; rw [show c i - 1 + 1 = c i by omega]; omega
    have g2 : kd (c k + 1) = kd (c k) - gK (c k) := by unfold gK; omega
    rw [g1, g2, Int.mul_add, Int.mul_sub]; omega

theorem rd_bang (l : List Int) (i : Nat) (h : i < l.length) : l[i]! = rd l i := by rw [getElem!_pos l i h, rd_nat l i h]
theorem gainLt_iff {flow counts : List Int} {b i : Nat} (hb : b < flow.length) (hi : i < flow.length) (hl : counts.length = flow.length) (hc : ∀ j : Nat, j < flow.length → 1 ≤ rd counts j ∧ rd counts j ≤ 40) :
    gainLt flow counts b i = true ↔ rd flow b * gK (rd counts b) < rd flow i * gK (rd counts i) := by
  unfold gainLt
  rw [decide_eq_true_eq, rd_bang flow b hb, rd_bang flow i hi, rd_bang counts b (by omega), rd_bang counts i (by omega), gain_lt_iff (hc b hb) (hc i hi)]
theorem bestUp_max {lt : Nat → Nat → Bool} {G : Nat → Int} {n : Nat} (hn : 0 < n) (hlt : ∀ b i, b < n → i < n → (lt b i = true ↔ G b < G i)) : ∀ i, i ≤ n → ∀ j, j < i → G j ≤ G (bestUp lt i) := by
  intro i
  induction i with
  | zero => intro _ j hj; omega
  | succ i ih =>
    intro hi j hj
    have hb := bestUp_lt lt n i hn (by omega)
    have h1 := hlt (bestUp lt i) i hb (by omega)
    rw [bestUp_succ]
    split
    · rename_i h2
      have h3 := h1.mp h2
      rcases Nat.lt_or_ge j i with h4 | h4
      · have := ih (by omega) j h4; omega
      · rw [show j = i by omega]; exact Int.le_refl _
    · rename_i h2
      have h3 : ¬ G (bestUp lt i) < G i := fun h => h2 (h1.mpr h)
      rcases Nat.lt_or_ge j i with h4 | h4
      · exact ih (by omega) j h4
      · rw [show j = i by omega]; omega
theorem nextOf_max {flow counts : List Int} (h0 : 0 < flow.length) (hl : counts.length = flow.length) (hc : ∀ j : Nat, j < flow.length → 1 ≤ rd counts j ∧ rd counts j ≤ 40) (k : Nat) (hk : k < flow.length) :
    rd flow k * gK (rd counts k) ≤ rd flow (nextOf flow counts) * gK (rd counts (nextOf flow counts)) :=
  bestUp_max (G := fun (j : Nat) => rd flow j * gK (rd counts j)) h0 (fun b i hb hi => gainLt_iff hb hi hl hc) flow.length (Nat.le_refl _) k hk
theorem rd_mem {l : List Int} {j : Nat} (h : j < l.length) : rd l j ∈ l := by rw [rd_nat l j h]; exact List.getElem_mem h
theorem sum_eq_sumTo (l : List Int) : l.sum = sumTo (fun (j : Nat) => rd l j) l.length := by
  have gen : ∀ i, i ≤ l.length → (l.take i).sum = sumTo (fun (j : Nat) => rd l j) i := by
    intro i
    induction i with
    | zero => intro _; rfl
    | succ i ih => intro hi; rw [sum_take_succ l i (by omega), ih (by omega), sumTo, rd_nat l i (by omega)]
  have := gen l.length (Nat.le_refl _)
  rwa [List.take_length] at this
theorem bump_rd {flow counts : List Int} (h0 : 0 < flow.length) (hl : counts.length = flow.length) (j : Nat) :
    rd (bump flow counts) j = if j = nextOf flow counts then rd counts (nextOf flow counts) + 1 else rd counts j := by
  have hb := nextOf_lt flow counts h0
  unfold bump
  rw [rd_set _ _ _ _ (by omega), rd_bang counts _ (by omega)]
theorem shareUp_stab {flow : List Int} (h1 : 1 ≤ flow.length ∧ flow.length ≤ 8) (hf : ∀ x ∈ flow, 1 ≤ x ∧ x ≤ 30) : ∀ t : Nat, t ≤ 39 → Stab flow.length (fun j => rd flow j) (fun j => rd (shareUp flow t) j) ∧ (shareUp flow t).sum = flow.length + t := by
  intro t
  have hl : ∀ t, (shareUp flow t).length = flow.length := shareUp_length flow
  have hb : ∀ t : Nat, ∀ j : Nat, j < flow.length → 1 ≤ rd (shareUp flow t) j ∧ rd (shareUp flow t) j ≤ 1 + t := fun t j hj => shareUp_bounds flow (by omega) t _ (rd_mem (by rw [hl]; exact hj))
  induction t with
  | zero =>
    intro _
    have e : shareUp flow 0 = List.replicate flow.length 1 := rfl
    constructor
    · intro i k hi hk _ h
      have := hb 0 i hi
      dsimp only at h; omega
    · rw [e]; simp
  | succ t ih =>
    intro ht
    obtain ⟨ih1, ih2⟩ := ih (by omega)
    have e : shareUp flow (t + 1) = bump flow (shareUp flow t) := rfl
    have hb' : ∀ j : Nat, j < flow.length → 1 ≤ rd (shareUp flow t) j ∧ rd (shareUp flow t) j ≤ 40 := fun j hj => by have := hb t j hj; omega
    have hm := nextOf_max (counts := shareUp flow t) (by omega) (hl t) hb'
    have hlt := nextOf_lt flow (shareUp flow t) (by omega)
    have hr := bump_rd (flow := flow) (counts := shareUp flow t) (by omega) (hl t)
    rw [e]
    constructor
    · intro i k hi hk hik h
      dsimp only at h ⊢
      rw [hr] at h
      rw [hr, hr]
      by_cases ei : i = nextOf flow (shareUp flow t)
      · rw [if_pos ei, if_neg (fun h => hik (ei.trans h.symm)), Int.add_sub_cancel, ei]
        exact hm k hk
      · rw [if_neg ei] at h ⊢
        by_cases ek : k = nextOf flow (shareUp flow t)
        · rw [if_pos ek, ek]
          have h2 := ih1 i (nextOf flow (shareUp flow t)) hi hlt ei h
          have h3 := hb t _ hlt
          have h4 := gK_mono (c := rd (shareUp flow t) (nextOf flow (shareUp flow t))) (by omega)
          have h5 := Int.mul_le_mul_of_nonneg_left h4 (show 0 ≤ rd flow (nextOf flow (shareUp flow t)) by have := hf _ (rd_mem hlt); omega)
          dsimp only at h2; omega
        · rw [if_neg ek]; exact ih1 i k hi hk hik h
    · rw [sum_eq_sumTo, bump_length, hl]
      rw [sumTo_one (g := fun (j : Nat) => rd (shareUp flow t) j) hlt (fun j hj hne => by rw [hr, if_neg hne]), hr, if_pos rfl]
      rw [sum_eq_sumTo, hl] at ih2
      omega

def tK (x : Int × Int) : Int := x.1 * KK / x.2
def isT (x : Int × Int) (t : Int) : Prop := 1 ≤ x.2 ∧ x.1 * KK = x.2 * t
theorem isT_tK {x : Int × Int} {t : Int} (h : isT x t) : tK x = t := by
  unfold tK; rw [h.2]; exact Int.mul_ediv_cancel_left _ (by have := h.1; omega)
theorem low_isT {f c t : Int} (hc : 0 < c) (h : f * KK = c * t) : isT (lowNum f c, lowDen f c) t := by
  refine ⟨(low_den_pos f c hc).1, ?_⟩
  have x := low_cross f c hc
  dsimp only
  have e : lowNum f c * KK * c = lowDen f c * t * c := by
    calc lowNum f c * KK * c = (lowNum f c * c) * KK := by rw [Int.mul_right_comm]
      _ = (f * lowDen f c) * KK := by rw [x]
      _ = (f * KK) * lowDen f c := by rw [Int.mul_right_comm]
      _ = (c * t) * lowDen f c := by rw [h]
      _ = lowDen f c * t * c := by rw [Int.mul_comm (c * t), Int.mul_comm c t, Int.mul_assoc]
  exact Int.eq_of_mul_eq_mul_right (by omega) e
theorem isT_unique {x y : Int × Int} {s t : Int} (hx : isT x s) (hy : isT y t) (gx : goodFrac x.1 x.2 = true) (gy : goodFrac y.1 y.2 = true) : (x.1 = y.1 ∧ x.2 = y.2) ↔ s = t := by
  constructor
  · rintro ⟨h1, h2⟩
    have e : x.2 * s = x.2 * t := by rw [← hx.2, h1, h2]; exact hy.2
    exact Int.eq_of_mul_eq_mul_left (by have := hx.1; omega) e
  · intro h
    subst h
    have e : x.1 * y.2 * KK = y.1 * x.2 * KK := by
      calc x.1 * y.2 * KK = (x.1 * KK) * y.2 := by rw [Int.mul_right_comm]
        _ = x.2 * s * y.2 := by rw [hx.2]
        _ = (y.2 * s) * x.2 := by rw [Int.mul_comm (x.2 * s), Int.mul_comm x.2 s, Int.mul_assoc]
        _ = (y.1 * KK) * x.2 := by rw [hy.2]
        _ = y.1 * x.2 * KK := by rw [Int.mul_right_comm]
    exact frac_unique gx gy (Int.eq_of_mul_eq_mul_right (Int.ne_of_gt KK_pos) e)
theorem add_isT {x y : Int × Int} {s t : Int} (hx : isT x s) (hy : isT y t) (ok : (addF x.1 x.2 y.1 y.2).2.2 = true) : isT ((addF x.1 x.2 y.1 y.2).1, (addF x.1 x.2 y.1 y.2).2.1) (s + t) ∧ goodFrac (addF x.1 x.2 y.1 y.2).1 (addF x.1 x.2 y.1 y.2).2.1 = true := by
  obtain ⟨h1, h2, h3⟩ := addF_true ok
  refine ⟨?_, h2⟩
  rw [h3]
  have := hx.1
  have := hy.1
  refine low_isT (Int.mul_pos (by omega) (by omega)) ?_
  rw [Int.add_mul, Int.mul_add]
  congr 1
  · rw [Int.mul_right_comm, hx.2, Int.mul_right_comm]
  · rw [Int.mul_right_comm, hy.2, Int.mul_comm x.2 y.2, Int.mul_right_comm]
theorem subF_true {a b c d : Int} (h : (subF a b c d).2.2 = true) : bothGood a b c d = true ∧ goodFrac (subF a b c d).1 (subF a b c d).2.1 = true ∧ (subF a b c d) = (lowNum (a * d - c * b) (b * d), lowDen (a * d - c * b) (b * d), true) := by
  unfold subF at h ⊢
  split at h
  case isTrue hh =>
    obtain ⟨h1, h2⟩ := fits_true h
    rw [if_pos hh, h2]; exact ⟨hh, h1, rfl⟩
  case isFalse => simp at h
theorem sub_isT {x y : Int × Int} {s t : Int} (hx : isT x s) (hy : isT y t) (ok : (subF x.1 x.2 y.1 y.2).2.2 = true) : isT ((subF x.1 x.2 y.1 y.2).1, (subF x.1 x.2 y.1 y.2).2.1) (s - t) ∧ goodFrac (subF x.1 x.2 y.1 y.2).1 (subF x.1 x.2 y.1 y.2).2.1 = true := by
  obtain ⟨h1, h2, h3⟩ := subF_true ok
  refine ⟨?_, h2⟩
  rw [h3]
  have := hx.1
  have := hy.1
  refine low_isT (Int.mul_pos (by omega) (by omega)) ?_
  rw [Int.sub_mul, Int.mul_sub]
  congr 1
  · rw [Int.mul_right_comm, hx.2, Int.mul_right_comm]
  · rw [Int.mul_right_comm, hy.2, Int.mul_comm x.2 y.2, Int.mul_right_comm]
theorem sumF_isT (l : List (Int × Int)) (t : Int × Int → Int) : ∀ (s : Int × Int) (T : Int), (∀ x ∈ l, isT x (t x)) → isT s T → goodFrac s.1 s.2 = true → (sumF l s).2.2 = true →
    isT ((sumF l s).1, (sumF l s).2.1) (T + (l.map t).sum) ∧ goodFrac (sumF l s).1 (sumF l s).2.1 = true := by
  induction l with
  | nil => intro s T _ hs hg _; simp only [sumF, List.map_nil, List.sum_nil, Int.add_zero]; exact ⟨hs, hg⟩
  | cons x l ih =>
    intro s T hl hs hg ok
    rw [sumF] at ok ⊢
    split at ok
    case isTrue hh =>
      rw [if_pos hh]
      obtain ⟨h1, h2⟩ := add_isT hs (hl x (by simp)) hh
      have := ih _ _ (fun y hy => hl y (by simp [hy])) h1 h2 ok
      rw [List.map_cons, List.sum_cons, ← Int.add_assoc]; exact this
    case isFalse => simp at ok
def ratioL (flow counts : List Int) : List (Int × Int) := (List.range flow.length).map fun (j : Nat) => (lowNum (rd flow j) (rd counts j), lowDen (rd flow j) (rd counts j))
def costF (flow counts : List Int) : Int × Int × Bool := if countsOk flow counts = true then sumF (ratioL flow counts) (0, 1) else (0, 0, false)
theorem range_sum (f : Nat → Int) (n : Nat) : ((List.range n).map f).sum = sumTo f n := by
  induction n with
  | zero => rfl
  | succ n ih => rw [List.range_succ, List.map_append, List.sum_append, ih, sumTo]; simp
theorem counts_rd {flow counts : List Int} (h : countsOk flow counts = true) : (1 ≤ flow.length ∧ flow.length ≤ 8) ∧ counts.length = flow.length ∧ (∀ j : Nat, j < flow.length → 1 ≤ rd flow j ∧ rd flow j ≤ 30) ∧ (∀ j : Nat, j < flow.length → 1 ≤ rd counts j ∧ rd counts j ≤ 40) ∧ sumTo (fun (j : Nat) => rd counts j) flow.length ≤ 40 ∧ counts.sum = sumTo (fun (j : Nat) => rd counts j) flow.length := by
  obtain ⟨h1, h2, h3, h4⟩ := (countsOk_iff _ _).mp h
  obtain ⟨f1, f2⟩ := (flowOk_iff _).mp h1
  have e := sum_eq_sumTo counts
  rw [h2] at e
  exact ⟨f1, h2, fun j hj => f2 _ (rd_mem hj), fun j hj => h3 _ (rd_mem (by omega)), by omega, e⟩
theorem costF_isT {flow counts : List Int} (h : countsOk flow counts = true) (ok : (costF flow counts).2.2 = true) :
    isT ((costF flow counts).1, (costF flow counts).2.1) (costN flow.length (fun j => rd flow j) (fun j => rd counts j)) ∧ goodFrac (costF flow counts).1 (costF flow counts).2.1 = true := by
  obtain ⟨h1, h2, h3, h4, _⟩ := counts_rd h
  have e : costF flow counts = sumF (ratioL flow counts) (0, 1) := by unfold costF; rw [if_pos h]
  rw [e] at ok ⊢
  have hT : ∀ j : Nat, j < flow.length → isT (lowNum (rd flow j) (rd counts j), lowDen (rd flow j) (rd counts j)) (rd flow j * kd (rd counts j)) := fun j hj => by
    have h5 := h4 j hj
    refine low_isT (by omega) ?_
    rw [← (kd_mul (c := rd counts j) (by omega)).1, Int.mul_left_comm]
  have := sumF_isT (ratioL flow counts) tK (0, 1) 0 (fun x hx => by
      simp only [ratioL, List.mem_map, List.mem_range] at hx
      obtain ⟨j, hj, rfl⟩ := hx
      rw [isT_tK (hT j hj)]; exact hT j hj) ⟨by decide, by decide⟩ (by decide) ok
  have e2 : ((ratioL flow counts).map tK).sum = costN flow.length (fun j => rd flow j) (fun j => rd counts j) := by
    unfold ratioL costN
    rw [List.map_map, range_sum]
    exact sumTo_congr fun j hj => isT_tK (hT j hj)
  rw [e2, Int.zero_add] at this
  exact this

def viol (flow counts : List Int) (i k : Nat) : Bool := decide (i ≠ k ∧ 1 < rd counts i ∧ rd flow i * gK (rd counts i - 1) < rd flow k * gK (rd counts k))
def stabB (flow counts : List Int) : Bool := allTo (fun i => allTo (fun k => !viol flow counts i k) flow.length) flow.length
theorem stabB_iff (flow counts : List Int) : stabB flow counts = true ↔ Stab flow.length (fun j => rd flow j) (fun j => rd counts j) := by
  unfold stabB Stab
  simp only [allTo_iff, viol, Bool.not_eq_true', decide_eq_false_iff_not]
  constructor
  · intro h i k hi hk hik h1
    have := h i hi k hk
    rcases Int.lt_or_le (rd flow i * gK (rd counts i - 1)) (rd flow k * gK (rd counts k)) with h2 | h2
    · exact absurd ⟨hik, h1, h2⟩ this
    · exact h2
  · rintro h i hi k hk ⟨hik, h1, h2⟩
    have := h i k hi hk hik h1
    omega
def stableF (flow counts : List Int) : Bool × Bool := if countsOk flow counts = true then (stabB flow counts, true) else (false, false)

theorem impl_st_row {flow counts : List Int} (h : countsOk flow counts = true) (i : Nat) (hi : i < flow.length) (r : Bool × Bool)
    (hyes : (∀ k, k < flow.length → (!viol flow counts i k) = true) → Ev (fun k => impl_IsStable.l0 k flow counts (flow.length : Int) ((i + 1 : Nat) : Int)) r) :
    Ev (fun k => impl_IsStable.l1 k flow counts (i : Int) (flow.length : Int) (i : Int) (flow.length : Int) 0) (if allTo (fun k => !viol flow counts i k) flow.length = true then r else (false, true)) := by
  obtain ⟨h1, h2, h3, h4, _⟩ := counts_rd h
  refine ev_all flow.length (fun k => !viol flow counts i k) (fun k j => impl_IsStable.l1 k flow counts (i : Int) (flow.length : Int) (i : Int) (flow.length : Int) (j : Int)) r (false, true) ?_ ?_ ?_ _ (allTo_iff _ _)
  · intro r j hj hv hn
    refine Ev.succ ?_
    simp only [impl_IsStable.l1]
    refine Ev.pos (by omega) ?_
    rw [w64n hj (by omega)]
    refine Ev.ite (fun _ => hn) (fun hij => Ev.pos (by omega) (Ev.pos (by omega) (Ev.ite (fun hgt => ?_) (fun _ => hn))))
    have c1 := h4 i hi
    have c2 := h4 j hj
    rw [w64 (x := rd counts i - 1) (by omega) (by omega)]
    refine Ev.pos (by omega) (Ev.bind (impl_gain_ev _ _ (h3 i hi) (by omega)) (Ev.pos (by omega) (Ev.pos (by omega) (Ev.pos (by omega) (Ev.bind (impl_gain_ev _ _ (h3 j hj) c2) ?_)))))
    have g1 := gn_bounds _ (rd counts i - 1) (h3 i hi) (by omega)
    have g2 := gd_bounds _ (rd counts i - 1) (h3 i hi) (by omega)
    have g3 := gn_bounds _ _ (h3 j hj) c2
    have g4 := gd_bounds _ _ (h3 j hj) c2
    have m1 := mul_small (a := gn (rd flow i) (rd counts i - 1)) (b := gd (rd flow j) (rd counts j)) (m := 30) (n := 1640) (by omega) (by omega)
    have m2 := mul_small (a := gn (rd flow j) (rd counts j)) (b := gd (rd flow i) (rd counts i - 1)) (m := 30) (n := 1640) (by omega) (by omega)
    have hl := gain_lt_iff (f := rd flow i) (c := rd counts i - 1) (g := rd flow j) (d := rd counts j) (by omega) c2
    have hv' : ¬ (i ≠ j ∧ 1 < rd counts i ∧ rd flow i * gK (rd counts i - 1) < rd flow j * gK (rd counts j)) := of_decide_eq_false (show viol flow counts i j = false by simpa using hv)
    have hnl : ¬ gn (rd flow i) (rd counts i - 1) * gd (rd flow j) (rd counts j) < gn (rd flow j) (rd counts j) * gd (rd flow i) (rd counts i - 1) := fun hx => hv' ⟨by omega, by omega, hl.mp hx⟩
    dsimp only
    refine Ev.bind0 (impl_compareFracs_eq _ _ _ _ (by omega) (by omega)) ?_
    rw [if_neg hnl]
    exact Ev.neg (by split <;> omega) hn
  · intro j hj hv
    have hv' : i ≠ j ∧ 1 < rd counts i ∧ rd flow i * gK (rd counts i - 1) < rd flow j * gK (rd counts j) := by simpa [viol] using hv
    have c1 := h4 i hi
    have c2 := h4 j hj
    refine Ev.succ ?_
    simp only [impl_IsStable.l1]
    refine Ev.pos (by omega) (Ev.neg (by omega) (Ev.pos (by omega) (Ev.pos (by omega) (Ev.pos hv'.2.1 ?_))))
    rw [w64 (x := rd counts i - 1) (by omega) (by omega)]
    refine Ev.pos (by omega) (Ev.bind (impl_gain_ev _ _ (h3 i hi) (by omega)) (Ev.pos (by omega) (Ev.pos (by omega) (Ev.pos (by omega) (Ev.bind (impl_gain_ev _ _ (h3 j hj) c2) ?_)))))
    have g1 := gn_bounds _ (rd counts i - 1) (h3 i hi) (by omega)
    have g2 := gd_bounds _ (rd counts i - 1) (h3 i hi) (by omega)
    have g3 := gn_bounds _ _ (h3 j hj) c2
    have g4 := gd_bounds _ _ (h3 j hj) c2
    have m1 := mul_small (a := gn (rd flow i) (rd counts i - 1)) (b := gd (rd flow j) (rd counts j)) (m := 30) (n := 1640) (by omega) (by omega)
    have m2 := mul_small (a := gn (rd flow j) (rd counts j)) (b := gd (rd flow i) (rd counts i - 1)) (m := 30) (n := 1640) (by omega) (by omega)
    have hl := (gain_lt_iff (f := rd flow i) (c := rd counts i - 1) (g := rd flow j) (d := rd counts j) (by omega) c2).mpr hv'.2.2
    dsimp only
    refine Ev.bind0 (impl_compareFracs_eq _ _ _ _ (by omega) (by omega)) ?_
    rw [if_pos hl]
    exact Ev.pos (by omega) (Ev.now _)
  · intro ha
    refine Ev.succ ?_
    simp only [impl_IsStable.l1]
    refine Ev.neg (by omega) ?_
    rw [w64n hi (by omega)]; exact hyes ha
theorem impl_IsStable_ev (flow counts : List Int) (h1 : flow.length ≤ 1048576) (h2 : counts.length ≤ 1048576) : Ev (fun k => impl_IsStable.f k flow counts) (stableF flow counts) := by
  unfold impl_IsStable.f stableF
  refine Ev.bind (impl_areCounts_ev flow counts h1 h2) (Ev.ite (fun h => ?_) (fun h => by rw [if_neg h]; exact Ev.now _))
  rw [if_pos h]
  refine Ev.to (ev_all flow.length (fun i => allTo (fun k => !viol flow counts i k) flow.length) (fun k i => impl_IsStable.l0 k flow counts (flow.length : Int) (i : Int)) (true, true) (false, true) ?_ ?_ ?_ (stabB flow counts) (allTo_iff _ _)) (by cases stabB flow counts <;> rfl)
  · intro r i hi hp hn
    have := impl_st_row h i hi r (fun _ => hn)
    rw [if_pos hp] at this
    refine Ev.succ ?_
    simp only [impl_IsStable.l0]; exact Ev.pos (by omega) this
  · intro i hi hp
    have := impl_st_row h i hi (true, true) (fun ha => absurd ((allTo_iff _ _).mpr ha) (by rw [hp]; simp))
    rw [if_neg (by rw [hp]; simp)] at this
    refine Ev.succ ?_
    simp only [impl_IsStable.l0]; exact Ev.pos (by omega) this
  · intro _
    refine Ev.succ ?_
    simp only [impl_IsStable.l0]; exact Ev.neg (by omega) (Ev.now _)

theorem spec_gain_rd {flow counts : List Int} (h : countsOk flow counts = true) (j : Nat) (hj : j < flow.length) : Ev (fun k => spec_l4Gain.f k flow counts (j : Int)) (gn (rd flow j) (rd counts j), gd (rd flow j) (rd counts j)) := by
  obtain ⟨h1, h2, h3, h4, _⟩ := counts_rd h
  obtain ⟨q1, q2, q3, q4⟩ := (countsOk_iff _ _).mp h
  have := spec_l4Gain_ev flow counts j hj h2 ((flowOk_iff _).mp q1).2 q3
  rwa [rd_bang flow j hj, rd_bang counts j (by omega)] at this
theorem spec_less_gain {f c g d : Int} (hf : 1 ≤ f ∧ f ≤ 30) (hc : 1 ≤ c ∧ c ≤ 40) (hg : 1 ≤ g ∧ g ≤ 30) (hd : 1 ≤ d ∧ d ≤ 40) : spec_l1Less.f (gn f c) (gd f c) (gn g d) (gd g d) = some (decide (f * gK c < g * gK d)) := by
  have g1 := gn_bounds f c hf hc
  have g2 := gd_bounds f c hf hc
  have g3 := gn_bounds g d hg hd
  have g4 := gd_bounds g d hg hd
  have m1 := mul_small (a := gn f c) (b := gd g d) (m := 30) (n := 1640) (by omega) (by omega)
  have m2 := mul_small (a := gn g d) (b := gd f c) (m := 30) (n := 1640) (by omega) (by omega)
  unfold spec_l1Less.f
  rw [w64 (by omega) (by omega), w64 (by omega) (by omega), decide_eq_decide.mpr (gain_lt_iff hc hd)]
theorem spec_st_row {flow counts : List Int} (h : countsOk flow counts = true) (i : Nat) (hi : i < flow.length) (hgt : 1 < rd counts i) (r : Bool × Bool)
    (hyes : (∀ k, k < flow.length → (!viol flow counts i k) = true) → Ev (fun k => spec_IsStable.l0 k flow counts (flow.length : Int) ((i + 1 : Nat) : Int)) r) :
    Ev (fun k => spec_IsStable.l1 k flow counts (i : Int) (flow.length : Int) (i : Int) (flow.length : Int) 0 (gn (rd flow i) (rd counts i - 1)) (gd (rd flow i) (rd counts i - 1))) (if allTo (fun k => !viol flow counts i k) flow.length = true then r else (false, true)) := by
  obtain ⟨h1, h2, h3, h4, _⟩ := counts_rd h
  have c1 := h4 i hi
  refine ev_all flow.length (fun k => !viol flow counts i k) (fun k j => spec_IsStable.l1 k flow counts (i : Int) (flow.length : Int) (i : Int) (flow.length : Int) (j : Int) (gn (rd flow i) (rd counts i - 1)) (gd (rd flow i) (rd counts i - 1))) r (false, true) ?_ ?_ ?_ _ (allTo_iff _ _)
  · intro r j hj hv hn
    have c2 := h4 j hj
    refine Ev.succ ?_
    simp only [spec_IsStable.l1]
    refine Ev.pos (by omega) ?_
    rw [w64n hj (by omega)]
    refine Ev.ite (fun _ => hn) (fun hij => Ev.bind (spec_gain_rd h j hj) (Ev.bind0 (spec_less_gain (h3 i hi) (by omega) (h3 j hj) c2) (Ev.neg ?_ hn)))
    have hv' : ¬ (i ≠ j ∧ 1 < rd counts i ∧ rd flow i * gK (rd counts i - 1) < rd flow j * gK (rd counts j)) := of_decide_eq_false (show viol flow counts i j = false by simpa using hv)
    simpa using fun hx => hv' ⟨by omega, hgt, hx⟩
  · intro j hj hv
    have c2 := h4 j hj
    have hv' : i ≠ j ∧ 1 < rd counts i ∧ rd flow i * gK (rd counts i - 1) < rd flow j * gK (rd counts j) := by simpa [viol] using hv
    refine Ev.succ ?_
    simp only [spec_IsStable.l1]
    exact Ev.pos (by omega) (Ev.neg (by omega) (Ev.bind (spec_gain_rd h j hj) (Ev.bind0 (spec_less_gain (h3 i hi) (by omega) (h3 j hj) c2) (Ev.pos (by simpa using hv'.2.2) (Ev.now _)))))
  · intro ha
    refine Ev.succ ?_
    simp only [spec_IsStable.l1]
    refine Ev.neg (by omega) ?_
    rw [w64n hi (by omega)]; exact hyes ha
theorem spec_IsStable_ev (flow counts : List Int) (h1 : flow.length ≤ 1048576) (h2 : counts.length ≤ 1048576) : Ev (fun k => spec_IsStable.f k flow counts) (stableF flow counts) := by
  unfold spec_IsStable.f stableF
  refine Ev.bind (spec_l4Counts_ev flow counts h1 h2) (Ev.ite (fun h => ?_) (fun h => by rw [if_neg h]; exact Ev.now _))
  rw [if_pos h]
  obtain ⟨b1, b2, b3, b4, _⟩ := counts_rd h
  have step : ∀ i, i < flow.length → ∀ r : Bool × Bool, (rd counts i = 1 → Ev (fun k => spec_IsStable.l0 k flow counts (flow.length : Int) ((i + 1 : Nat) : Int)) r) →
      (1 < rd counts i → Ev (fun k => spec_IsStable.l1 k flow counts (i : Int) (flow.length : Int) (i : Int) (flow.length : Int) 0 (gn (rd flow i) (rd counts i - 1)) (gd (rd flow i) (rd counts i - 1))) r) → Ev (fun k => spec_IsStable.l0 k flow counts (flow.length : Int) (i : Int)) r := by
    intro i hi r e1 e2
    have c1 := b4 i hi
    refine Ev.succ ?_
    simp only [spec_IsStable.l0]
    refine Ev.pos (by omega) (Ev.pos (by omega) (Ev.pos (by omega) ?_))
    rw [w64n hi (by omega)]
    refine Ev.ite e1 (fun hne => ?_)
    have hp : 1 ≤ rd counts i * (rd counts i - 1) ∧ rd counts i * (rd counts i - 1) ≤ 1640 := by
      have := gain_den (rd counts i - 1) (by omega)
      rw [show rd counts i - 1 + 1 = rd counts i by omega, Int.mul_comm] at this; exact this
    have f1 := b3 i hi
    rw [w64 (x := rd counts i - 1) (by omega) (by omega), w64 (x := rd counts i * _) (by omega) (by omega)]
    refine Ev.pos (by omega) (Ev.bind (spec_l1Make_ev _ _ (by omega) (by omega) (by omega)) ?_)
    have := e2 (by omega)
    unfold gn gd at this
    rw [show rd counts i - 1 + 1 = rd counts i by omega, Int.mul_comm (rd counts i - 1)] at this
    exact this
  refine Ev.to (ev_all flow.length (fun i => allTo (fun k => !viol flow counts i k) flow.length) (fun k i => spec_IsStable.l0 k flow counts (flow.length : Int) (i : Int)) (true, true) (false, true) ?_ ?_ ?_ (stabB flow counts) (allTo_iff _ _)) (by cases stabB flow counts <;> rfl)
  · intro r i hi hp hn
    refine step i hi r (fun _ => hn) fun hgt => ?_
    have := spec_st_row h i hi hgt r (fun _ => hn)
    rw [if_pos hp] at this; exact this
  · intro i hi hp
    refine step i hi _ (fun he => ?_) fun hgt => ?_
    · refine absurd ((allTo_iff _ _).mpr fun k hk => ?_) (show ¬ allTo (fun k => !viol flow counts i k) flow.length = true by rw [hp]; simp)
      have : viol flow counts i k = false := by unfold viol; exact decide_eq_false (fun hx => by omega)
      rw [this]; rfl
    · have := spec_st_row h i hi hgt (true, true) (fun ha => absurd ((allTo_iff _ _).mpr ha) (by rw [hp]; simp))
      rw [if_neg (by rw [hp]; simp)] at this; exact this
  · intro _
    refine Ev.succ ?_
    simp only [spec_IsStable.l0]; exact Ev.neg (by omega) (Ev.now _)

def ratioS (flow counts : List Int) (n : Nat) : List S61 := (List.range n).map fun (j : Nat) => ⟨lowNum (rd flow j) (rd counts j), lowDen (rd flow j) (rd counts j)⟩
theorem ratioS_succ (flow counts : List Int) (n : Nat) : ratioS flow counts (n + 1) = ratioS flow counts n ++ [⟨lowNum (rd flow n) (rd counts n), lowDen (rd flow n) (rd counts n)⟩] := by unfold ratioS; rw [List.range_succ, List.map_append]; rfl
theorem ratioS_map (flow counts : List Int) : (ratioS flow counts flow.length).map (fun x => (x.f0, x.f1)) = ratioL flow counts := by unfold ratioS ratioL; rw [List.map_map]; rfl
theorem impl_CostOf_ev (flow counts : List Int) (h1 : flow.length ≤ 1048576) (h2 : counts.length ≤ 1048576) : Ev (fun k => impl_CostOf.f k flow counts) (costF flow counts) := by
  unfold impl_CostOf.f costF
  refine Ev.bind (impl_areCounts_ev flow counts h1 h2) (Ev.ite (fun h => ?_) (fun h => by rw [if_neg h]; exact Ev.now _))
  rw [if_pos h]
  obtain ⟨b1, b2, b3, b4, _⟩ := counts_rd h
  have key : Ev (fun k => impl_ratios.f k flow counts) (sumF (ratioL flow counts) (0, 1)) := by
    unfold impl_ratios.f
    refine ev_up flow.length (fun k i => impl_ratios.l0 k counts (ratioS flow counts i) flow (flow.length : Int) (i : Int)) _ (fun _ => True) trivial ?_ ?_
    · intro _
      refine Ev.succ ?_
      simp only [impl_ratios.l0]
      refine Ev.neg (by omega) ?_
      have := impl_sumFracs_ev (ratioS flow counts flow.length) (by simp [ratioS]; omega)
      rw [ratioS_map] at this
      exact Ev.bind this (Ev.now _)
    · intro i hi _ hn
      have hn := hn trivial
      have c1 := b4 i hi
      have f1 := b3 i hi
      refine Ev.succ ?_
      simp only [impl_ratios.l0]
      refine Ev.pos (by omega) (Ev.pos (by omega) (Ev.pos (by omega) (Ev.pos (by omega) ?_)))
      rw [w64n hi (by omega)]
      have e : fits (lowNum (rd flow i) (rd counts i), lowDen (rd flow i) (rd counts i)) = (lowNum (rd flow i) (rd counts i), lowDen (rd flow i) (rd counts i), true) := by
        unfold fits; rw [if_pos (low_good _ _ (by omega) (by omega))]
      refine Ev.bind (Ev.to (impl_lowest_fits _ _ (by omega) (by omega) (by omega)) e) (Ev.pos (by simp [ratioS]; omega) ?_)
      rw [ratioS_succ] at hn; exact hn
  exact Ev.bind key (Ev.now _)

theorem spec_CostOf_ev (flow counts : List Int) (h1 : flow.length ≤ 1048576) (h2 : counts.length ≤ 1048576) : Ev (fun k => spec_CostOf.f k flow counts) (costF flow counts) := by
  unfold spec_CostOf.f costF
  refine Ev.bind (spec_l4Counts_ev flow counts h1 h2) (Ev.ite (fun h => ?_) (fun h => by rw [if_neg h]; exact Ev.now _))
  rw [if_pos h]
  obtain ⟨b1, b2, b3, b4, _⟩ := counts_rd h
  refine ev_up flow.length (fun k i => spec_CostOf.l0 k counts (ratioS flow counts i) flow (flow.length : Int) (i : Int)) _ (fun _ => True) trivial ?_ ?_
  · intro _
    refine Ev.succ ?_
    simp only [spec_CostOf.l0]
    refine Ev.neg (by omega) ?_
    have := spec_SumFracs_ev (ratioS flow counts flow.length) (by simp [ratioS]; omega)
    rw [ratioS_map] at this
    have e : sumsF (ratioL flow counts) = sumF (ratioL flow counts) (0, 1) := by unfold sumsF; rw [if_pos (by simp [ratioL]; omega)]
    rw [e] at this
    exact Ev.bind this (Ev.now _)
  · intro i hi _ hn
    have hn := hn trivial
    have c1 := b4 i hi
    have f1 := b3 i hi
    refine Ev.succ ?_
    simp only [spec_CostOf.l0]
    refine Ev.pos (by omega) (Ev.pos (by omega) (Ev.pos (by omega) (Ev.pos (by omega) ?_)))
    rw [w64n hi (by omega)]
    refine Ev.bind (spec_l1Make_ev _ _ (by omega) (by omega) (by omega)) (Ev.pos (by simp [ratioS]; omega) ?_)
    rw [ratioS_succ] at hn; exact hn

def gainF (flow counts : List Int) (a : Int) : Int × Int × Bool := if countsOk flow counts = true ∧ 0 ≤ a ∧ a < flow.length then (gn (rd flow a) (rd counts a), gd (rd flow a) (rd counts a), true) else (0, 0, false)
theorem impl_GainOf_ev (flow counts : List Int) (a : Int) (h1 : flow.length ≤ 1048576) (h2 : counts.length ≤ 1048576) : Ev (fun k => impl_GainOf.f k flow counts a) (gainF flow counts a) := by
  unfold impl_GainOf.f gainF
  refine Ev.bind (impl_areCounts_ev flow counts h1 h2) (Ev.ite (fun h => ?_) (fun h => by rw [if_neg (fun hx => h hx.1)]; exact Ev.now _))
  obtain ⟨b1, b2, b3, b4, _⟩ := counts_rd h
  rw [w64 (x := (flow.length : Int) - 1) (by omega) (by omega)]
  refine Ev.bind0 (impl_within_eq _ _ _) ?_
  by_cases ha : 0 ≤ a ∧ a < flow.length
  · rw [if_pos ⟨h, ha⟩]
    have q1 := b3 a.toNat (by omega)
    have q2 := b4 a.toNat (by omega)
    rw [show ((a.toNat : Nat) : Int) = a by omega] at q1 q2
    exact Ev.pos (by simp; omega) (Ev.pos ha.1 (Ev.pos ha.2 (Ev.pos (by omega) (Ev.bind (impl_gain_ev _ _ q1 q2) (Ev.now _)))))
  · rw [if_neg (fun hx => ha hx.2)]
    exact Ev.neg (by simp; omega) (Ev.now _)

theorem spec_GainOf_ev (flow counts : List Int) (a : Int) (h1 : flow.length ≤ 1048576) (h2 : counts.length ≤ 1048576) : Ev (fun k => spec_GainOf.f k flow counts a) (gainF flow counts a) := by
  unfold spec_GainOf.f gainF
  refine Ev.bind (spec_l4Counts_ev flow counts h1 h2) (Ev.ite (fun h => ?_) (fun h => by rw [if_neg (fun hx => h hx.1)]; exact Ev.now _))
  refine Ev.ite (fun h3 => by rw [if_neg (fun hx => by omega)]; exact Ev.now _) (fun h3 => Ev.ite (fun h4 => by rw [if_neg (fun hx => by omega)]; exact Ev.now _) (fun h4 => ?_))
  rw [if_pos ⟨h, by omega, by omega⟩]
  have := spec_gain_rd h a.toNat (by omega)
  rw [show ((a.toNat : Nat) : Int) = a by omega] at this
  exact Ev.bind this (Ev.now _)

theorem cur_placesFor (l : List Int) (a s : Int) (l1 : List Int) (hl : bytesOk l) (ha : 0 ≤ a ∧ a ≤ 4611686018427387000) :
    ∃ r a' s', spec_l1Cur_placesFor.f l a s l1 = some (r, a', s') ∧ a ≤ a' ∧ a' ≤ a + 4 := by
  unfold spec_l1Cur_placesFor.f
  obtain ⟨b, a1, s1, e1, h1⟩ := cur_one l a s 12 hl (by omega)
  rw [e1]
  cases b with
  | true =>
    obtain ⟨n, a2, s2, e2, h2, h3⟩ := cur_among l a1 s1 [0, 40, 41] hl (by omega) (by simp)
    exact ⟨n, a2, s2, by simp only [Option.bind_some, if_true, e2], by omega, by omega⟩
  | false =>
    obtain ⟨n, a2, s2, e2, h2, h3, h4⟩ := cur_pick l a1 s1 9 hl (by omega)
    exact ⟨_, a2, s2, by simp only [Option.bind_some, if_false, e2, Bool.false_eq_true]; rfl, by omega, by omega⟩
theorem cur_countsFor (l : List Int) (a s : Int) (l1 : List Int) (hl : bytesOk l) (ha : 0 ≤ a ∧ a ≤ 4611686018427380000) (h1 : l1.length ≤ 100) :
    ∃ (r : List Int) (a' s' : Int), Ev (fun k => spec_l1Cur_countsFor.f k l a s l1) (r, a', s') ∧ r.length ≤ 200 ∧ a ≤ a' ∧ a' ≤ a + 1000 := by
  have two : ∀ (x : List Int) (b : Bool) (a s : Int), x.length ≤ 200 → (b = true → 0 < x.length) → 0 ≤ a ∧ a ≤ 4611686018427386000 → ∃ (r : List Int) (a' s' : Int), Ev (fun k => spec_l1Cur_countsFor.j2 k x b l a s) (r, a', s') ∧ r.length ≤ 200 ∧ a ≤ a' ∧ a' ≤ a + 6 := by
    intro x b a s hx hb ha
    cases b with
    | false => exact ⟨x, a, s, Ev.succ (by simp only [spec_l1Cur_countsFor.j2]; exact Ev.neg (by simp) (Ev.now _)), hx, by omega, by omega⟩
    | true =>
      have hp := hb rfl
      obtain ⟨p, a1, s1, e1, q1, q2, q3⟩ := cur_pick l a s (x.length : Int) hl (by omega)
      obtain ⟨q, a2, s2, e2, q4, q5, q6⟩ := cur_pick l a1 s1 (x.length : Int) hl (by omega)
      by_cases hgt : rd x p > 1
      · refine ⟨(x.set p.toNat (wrap64 (rd x p - 1))).set q.toNat (wrap64 (rd (x.set p.toNat (wrap64 (rd x p - 1))) q + 1)), a2, s2, Ev.succ ?_, by simpa using hx, by omega, by omega⟩
        simp only [spec_l1Cur_countsFor.j2]
        exact Ev.pos trivial (Ev.bind0 e1 (Ev.bind0 e2 (Ev.pos q1 (Ev.pos (by dsimp only; omega) (Ev.pos hgt (Ev.bind0 rfl (Ev.pos q4 (Ev.pos (by dsimp only; omega) (Ev.now _)))))))))
      · obtain ⟨b, a3, s3, e3, q7⟩ := cur_one l a2 s2 12 hl (by omega)
        cases b with
        | true =>
          refine ⟨(x.set p.toNat (wrap64 (rd x p - 1))).set q.toNat (wrap64 (rd (x.set p.toNat (wrap64 (rd x p - 1))) q + 1)), a3, s3, Ev.succ ?_, by simpa using hx, by omega, by omega⟩
          simp only [spec_l1Cur_countsFor.j2]
          exact Ev.pos trivial (Ev.bind0 e1 (Ev.bind0 e2 (Ev.pos q1 (Ev.pos (by dsimp only; omega) (Ev.neg hgt (Ev.bind0 e3 (Ev.pos rfl (Ev.bind0 rfl (Ev.pos q4 (Ev.pos (by dsimp only; omega) (Ev.now _)))))))))))
        | false =>
          refine ⟨x, a3, s3, Ev.succ ?_, hx, by omega, by omega⟩
          simp only [spec_l1Cur_countsFor.j2]
          exact Ev.pos trivial (Ev.bind0 e1 (Ev.bind0 e2 (Ev.pos q1 (Ev.pos (by dsimp only; omega) (Ev.neg hgt (Ev.bind0 e3 (Ev.neg (by simp) (Ev.now _))))))))
  have one : ∀ (x : List Int) (a s : Int), x.length ≤ 200 → 0 ≤ a ∧ a ≤ 4611686018427385000 → ∃ (r : List Int) (a' s' : Int), Ev (fun k => spec_l1Cur_countsFor.j1 k x l a s) (r, a', s') ∧ r.length ≤ 200 ∧ a ≤ a' ∧ a' ≤ a + 8 := by
    intro x a s hx ha
    by_cases h0 : (x.length : Int) > 1
    · obtain ⟨b, a1, s1, e1, q1⟩ := cur_one l a s 2 hl (by omega)
      obtain ⟨r, a2, s2, hr, q2, q3, q4⟩ := two x b a1 s1 hx (fun _ => by omega) (by omega)
      refine ⟨r, a2, s2, Ev.succ ?_, q2, by omega, by omega⟩
      simp only [spec_l1Cur_countsFor.j1]
      exact Ev.pos h0 (Ev.bind0 e1 hr)
    · obtain ⟨r, a2, s2, hr, q2, q3, q4⟩ := two x false a s hx (fun h => by simp at h) (by omega)
      refine ⟨r, a2, s2, Ev.succ ?_, q2, by omega, by omega⟩
      simp only [spec_l1Cur_countsFor.j1]
      exact Ev.neg h0 hr
  have loop : ∀ (d i : Nat) (x : List Int) (a s : Int), i + d = l1.length → x.length + d ≤ 200 → (0 ≤ a ∧ a + 2 * d ≤ 4611686018427384000) →
      ∃ (r : List Int) (a' s' : Int), Ev (fun k => spec_l1Cur_countsFor.l0 k x (l1.length : Int) (i : Int) l a s) (r, a', s') ∧ r.length ≤ 200 ∧ a ≤ a' ∧ a' ≤ a + 2 * d + 8 := by
    intro d
    induction d with
    | zero =>
      intro i x a s hi hx ha
      obtain ⟨r, a2, s2, hr, q2, q3, q4⟩ := one x a s (by omega) (by omega)
      refine ⟨r, a2, s2, Ev.succ ?_, q2, by omega, by omega⟩
      simp only [spec_l1Cur_countsFor.l0]; exact Ev.neg (by omega) hr
    | succ d ih =>
      intro i x a s hi hx ha
      obtain ⟨p, a1, s1, e1, q1, q2, q3⟩ := cur_pick l a s 4 hl (by omega)
      obtain ⟨r, a2, s2, hr, q4, q5, q6⟩ := ih (i + 1) (x ++ [wrap64 (1 + p)]) a1 s1 (by omega) (by simp; omega) (by omega)
      refine ⟨r, a2, s2, Ev.succ ?_, q4, by omega, by omega⟩
      simp only [spec_l1Cur_countsFor.l0]
      refine Ev.pos (by omega) (Ev.bind0 e1 (Ev.pos (by omega) ?_))
      rw [w64 (x := (i : Int) + 1) (by omega) (by omega)]; exact hr
  unfold spec_l1Cur_countsFor.f
  obtain ⟨p, a1, s1, e1, q1⟩ := cur_placesFor l a s l1 hl (by omega)
  have hs := spec_ShareOut_ev l1 p (by omega)
  have hlen := shareOf_length l1 p
  by_cases hk : kindsOk l1 p = true
  · rw [if_pos hk] at hs hlen
    obtain ⟨r, a2, s2, hr, q2, q3, q4⟩ := one (shareOf l1 p) a1 s1 (by dsimp only at hlen; omega) (by omega)
    exact ⟨r, a2, s2, Ev.bind0 e1 (Ev.bind hs (Ev.pos rfl hr)), q2, by omega, by omega⟩
  · rw [if_neg hk] at hs
    obtain ⟨r, a2, s2, hr, q2, q3, q4⟩ := loop l1.length 0 [] a1 s1 (by omega) (by simp; omega) (by omega)
    exact ⟨r, a2, s2, Ev.bind0 e1 (Ev.bind hs (Ev.neg (by simp) hr)), q2, by omega, by omega⟩
theorem spec_DrawCostOf_ev (l : List Int) (hl : bytesOk l) : ∃ flow counts : List Int, Ev (fun k => spec_DrawCostOf.f k l) (flow, counts) ∧ flow.length ≤ 100 ∧ counts.length ≤ 200 := by
  unfold spec_DrawCostOf.f
  obtain ⟨flow, a1, s1, e1, q1, q2, q3⟩ := cur_flow l 0 0 hl (by omega)
  obtain ⟨counts, a2, s2, e2, q4, _⟩ := cur_countsFor l a1 s1 flow hl (by omega) q1
  exact ⟨flow, counts, Ev.bind e1 (Ev.bind e2 (Ev.now _)), q1, q4⟩
theorem spec_DrawIsStable_ev (l : List Int) (hl : bytesOk l) : ∃ flow counts : List Int, Ev (fun k => spec_DrawIsStable.f k l) (flow, counts) ∧ flow.length ≤ 100 ∧ counts.length ≤ 200 := by
  obtain ⟨flow, counts, e, h⟩ := spec_DrawCostOf_ev l hl
  exact ⟨flow, counts, Ev.bind e (Ev.now _), h⟩
theorem spec_DrawGainOf_ev (l : List Int) (hl : bytesOk l) : ∃ (flow counts : List Int) (k : Int), Ev (fun n => spec_DrawGainOf.f n l) (flow, counts, k) ∧ flow.length ≤ 100 ∧ counts.length ≤ 200 := by
  unfold spec_DrawGainOf.f
  obtain ⟨flow, a1, s1, e1, q1, q2, q3⟩ := cur_flow l 0 0 hl (by omega)
  obtain ⟨counts, a2, s2, e2, q4, q5, q6⟩ := cur_countsFor l a1 s1 flow hl (by omega) q1
  obtain ⟨p, a3, s3, e3, _⟩ := cur_pick l a2 s2 (wrap64 ((flow.length : Int) + 2)) hl (by omega)
  exact ⟨flow, counts, _, Ev.bind e1 (Ev.bind e2 (Ev.bind0 e3 (Ev.now _))), q1, q4⟩

theorem laws_sumOf_ev (l : List Int) (lo hi : Int) (h : ∀ x ∈ l, lo ≤ x ∧ x ≤ hi) (hlo : -1048576 ≤ lo) (hhi : hi ≤ 1073741824) (hl : l.length ≤ 1048576) : Ev (fun k => laws_sumOf.f k l) l.sum := by
  unfold laws_sumOf.f
  refine ev_up l.length (fun k i => laws_sumOf.l0 k (l.take i).sum l (l.length : Int) (i : Int)) _ (fun _ => True) trivial ?_ ?_
  · intro _
    refine Ev.step0 (Ev.of_eq fun _ => rfl) fun k => ?_
    simp only [laws_sumOf.l0]; rw [if_neg (by omega), List.take_length]
  · intro i hi' _ hn
    have hs := sum_take_succ l i hi'
    have hb := sum_bounds (l.take (i + 1)) (-1048576) 1073741824 fun x hx => by have := h x (List.mem_of_mem_take hx); omega
    have hlen : (l.take (i + 1)).length ≤ 1048576 := by rw [List.length_take]; omega
    refine Ev.step0 (hn trivial) fun k => ?_
    simp only [laws_sumOf.l0]; rw [if_pos (lt_len hi'), if_pos (by omega), if_pos (lt_len hi'), rd_nat l i hi', ← hs, w64 (by omega) (by omega), w64 (by omega) (by omega)]; rfl

theorem shareOf_ok {flow : List Int} {places : Int} (h : kindsOk flow places = true) : countsOk flow (shareOf flow places) = true ∧ (shareOf flow places).length = flow.length ∧ (shareOf flow places).sum = places ∧ Stab flow.length (fun j => rd flow j) (fun j => rd (shareOf flow places) j) := by
  simp only [kindsOk, Bool.and_eq_true, decide_eq_true_eq] at h
  obtain ⟨h1, h2, h3⟩ := h
  obtain ⟨f1, f2⟩ := (flowOk_iff flow).mp h1
  have hs := shareUp_stab f1 f2 (places - flow.length).toNat (by omega)
  have hb := shareUp_bounds flow (by omega) (places - flow.length).toNat
  have hsum : (shareOf flow places).sum = places := by unfold shareOf; rw [hs.2]; omega
  have hlen : (shareOf flow places).length = flow.length := shareUp_length _ _
  refine ⟨(countsOk_iff _ _).mpr ⟨h1, hlen, fun x hx => by have := hb x hx; omega, by omega⟩, hlen, hsum, hs.1⟩
theorem shareOf_least {flow counts : List Int} (h : countsOk flow counts = true) : kindsOk flow counts.sum = true ∧ countsOk flow (shareOf flow counts.sum) = true ∧
    costN flow.length (fun j => rd flow j) (fun j => rd (shareOf flow counts.sum) j) ≤ costN flow.length (fun j => rd flow j) (fun j => rd counts j) := by
  obtain ⟨b1, b2, b3, b4, b5, b6⟩ := counts_rd h
  have hlo := sumTo_bounds (f := fun (j : Nat) => rd counts j) (n := flow.length) (lo := 1) (hi := 40) b4
  have hk : kindsOk flow counts.sum = true := by
    simp only [kindsOk, Bool.and_eq_true, decide_eq_true_eq]
    exact ⟨((countsOk_iff _ _).mp h).1, by omega, by omega⟩
  obtain ⟨s1, s2, s3, s4⟩ := shareOf_ok hk
  obtain ⟨_, _, _, c4, _, c6⟩ := counts_rd s1
  exact ⟨hk, s1, stab_opt (by omega) (fun i hi => by have := b3 i hi; omega) c4 b4 (by rw [← c6, ← b6, s3]) s4⟩
theorem stab_iff_cost {flow counts : List Int} (h : countsOk flow counts = true) :
    stabB flow counts = true ↔ costN flow.length (fun j => rd flow j) (fun j => rd counts j) = costN flow.length (fun j => rd flow j) (fun j => rd (shareOf flow counts.sum) j) := by
  obtain ⟨b1, b2, b3, b4, b5, b6⟩ := counts_rd h
  obtain ⟨hk, s1, hle⟩ := shareOf_least h
  obtain ⟨s1, s2, s3, s4⟩ := shareOf_ok hk
  obtain ⟨_, _, _, c4, _, c6⟩ := counts_rd s1
  rw [stabB_iff]
  constructor
  · intro hst
    have := stab_opt (by omega) (fun i hi => by have := b3 i hi; omega) b4 c4 (by rw [← c6, ← b6, s3]) hst
    omega
  · intro he
    refine Classical.byContradiction fun hst => ?_
    obtain ⟨d, d1, d2, d3⟩ := unstab b4 b5 hst
    have := stab_opt (f := fun (j : Nat) => rd flow j) (by omega) (fun i hi => by have := b3 i hi; omega) c4 d1 (by rw [← c6, d2, ← b6, s3]) s4
    omega

theorem stable_j6 {flow counts : List Int} {a : Int} (h : countsOk flow counts = true) (ha : 0 ≤ a ∧ a < flow.length) (x : Bool) (hx : x = true → counts.sum < 40) :
    Ev (fun k => laws_FnStable.j6 k flow counts a x (gn (rd flow a) (rd counts a)) (gd (rd flow a) (rd counts a))) true := by
  obtain ⟨b1, b2, b3, b4, b5, b6⟩ := counts_rd h
  obtain ⟨n, hn⟩ : ∃ n : Nat, a = n := ⟨a.toNat, by omega⟩
  subst hn
  have hlt : n < flow.length := by omega
  have q1 := b3 n hlt
  have q2 := b4 n hlt
  refine Ev.succ ?_
  simp only [laws_FnStable.j6]
  refine Ev.ite (fun hxx => ?_) (fun _ => Ev.now _)
  have hs := hx hxx
  refine Ev.bind0 rfl (Ev.pos (by simp; omega) (Ev.bind0 rfl (Ev.pos ha.1 (Ev.pos (by simp; omega) ?_))))
  rw [List.nil_append, toNat_nat]
  have hq : rd counts n ≤ 39 := by
    have e1 := sumTo_one (f := fun (j : Nat) => rd counts j) (g := fun (j : Nat) => if j = n then 0 else rd counts j) hlt (fun j _ hj => by rw [if_neg hj])
    have e3 := sumTo_bounds (f := fun (j : Nat) => if j = n then 0 else rd counts j) (n := flow.length) (lo := 0) (hi := 40) (fun j hj => by have := b4 j hj; split <;> omega)
    rw [if_pos rfl] at e1; omega
  rw [w64 (x := rd counts n + 1) (by omega) (by omega)]
  have hrd : ∀ j : Nat, rd (counts.set n (rd counts n + 1)) j = if j = n then rd counts n + 1 else rd counts j := fun j => rd_set _ _ _ _ (by omega)
  have hd : countsOk flow (counts.set n (rd counts n + 1)) = true := by
    obtain ⟨c1, c2, c3, c4⟩ := (countsOk_iff _ _).mp h
    have hlen : (counts.set n (rd counts n + 1)).length = flow.length := by rw [List.length_set]; exact c2
    refine (countsOk_iff _ _).mpr ⟨c1, hlen, fun x hx => ?_, ?_⟩
    · obtain ⟨j, hj, rfl⟩ := List.getElem_of_mem hx
      rw [← rd_nat, hrd]
      have := b4 j (by omega)
      split <;> omega
    · rw [sum_eq_sumTo, hlen, sumTo_one (g := fun (j : Nat) => rd counts j) hlt (fun j _ hj => by rw [hrd, if_neg hj]), hrd, if_pos rfl]
      omega
  refine Ev.bind (impl_CostOf_ev flow counts (by omega) (by omega)) (Ev.bind (impl_CostOf_ev flow _ (by omega) (by rw [List.length_set]; omega)) (Ev.bind (impl_SubFrac_ev _ _ _ _) (Ev.ite (fun ok1 => Ev.ite (fun ok2 => Ev.ite (fun ok3 => ?_) (fun _ => Ev.now _)) (fun _ => Ev.now _)) (fun _ => Ev.now _))))
  obtain ⟨t1, g1⟩ := costF_isT h ok1
  obtain ⟨t2, g2⟩ := costF_isT hd ok2
  obtain ⟨t3, g3⟩ := sub_isT t1 t2 ok3
  have t4 : isT (gn (rd flow n) (rd counts n), gd (rd flow n) (rd counts n)) (rd flow n * gK (rd counts n)) := by
    have hp := gain_den (rd counts n) (by omega)
    refine low_isT (by omega) ?_
    rw [← gK_mul (c := rd counts n) (by omega), ← Int.mul_assoc, Int.mul_comm]
  have hp := gain_den (rd counts n) (by omega)
  have g4 : goodFrac (gn (rd flow n) (rd counts n)) (gd (rd flow n) (rd counts n)) = true := low_good _ _ (by omega) (by omega)
  have hT : costN flow.length (fun j => rd flow j) (fun j => rd counts j) - costN flow.length (fun j => rd flow j) (fun j => rd (counts.set n (rd counts n + 1)) j) = rd flow n * gK (rd counts n) := by
    have e : sumTo (fun (j : Nat) => rd flow j * kd (rd counts j)) flow.length = sumTo (fun (j : Nat) => rd flow j * kd (rd (counts.set n (rd counts n + 1)) j)) flow.length + (rd flow n * kd (rd counts n) - rd flow n * kd (rd (counts.set n (rd counts n + 1)) n)) := sumTo_one (f := fun (j : Nat) => rd flow j * kd (rd counts j)) (g := fun (j : Nat) => rd flow j * kd (rd (counts.set n (rd counts n + 1)) j)) hlt (fun j _ hj => by rw [hrd, if_neg hj])
    have e2 : rd (counts.set n (rd counts n + 1)) n = rd counts n + 1 := by rw [hrd, if_pos rfl]
    rw [e2] at e
    have e3 : rd flow n * gK (rd counts n) = rd flow n * kd (rd counts n) - rd flow n * kd (rd counts n + 1) := by unfold gK; rw [Int.mul_sub]
    show sumTo (fun (j : Nat) => rd flow j * kd (rd counts j)) flow.length - sumTo (fun (j : Nat) => rd flow j * kd (rd (counts.set n (rd counts n + 1)) j)) flow.length = _
    omega
  rw [hT] at t3
  have := (isT_unique t3 t4 g3 g4).mpr rfl
  refine Ev.to (Ev.now _) ?_
  rw [Bool.and_eq_true, beq_iff_eq, beq_iff_eq]; exact this
theorem stable_j4 (l : List Int) (hl : bytesOk l) : Ev (fun k => laws_FnStable.j4 k l) true := by
  refine Ev.succ ?_
  simp only [laws_FnStable.j4]
  obtain ⟨flow, counts, a, e, h1, h2⟩ := spec_DrawGainOf_ev l hl
  refine Ev.bind e (Ev.bind (impl_GainOf_ev flow counts a (by omega) (by omega)) (Ev.bind (spec_GainOf_ev flow counts a (by omega) (by omega)) (Ev.neg (by simp) (Ev.succ ?_))))
  simp only [laws_FnStable.j5, beq_self_eq_true, Bool.not_true, Bool.or_self]
  refine Ev.neg (by simp) ?_
  by_cases h : countsOk flow counts = true ∧ 0 ≤ a ∧ a < flow.length
  · have eg : gainF flow counts a = (gn (rd flow a) (rd counts a), gd (rd flow a) (rd counts a), true) := by unfold gainF; rw [if_pos h]
    rw [eg]
    obtain ⟨c1, c2, c3, c4⟩ := (countsOk_iff _ _).mp h.1
    exact Ev.pos rfl (Ev.bind (laws_sumOf_ev counts 1 40 c3 (by omega) (by omega) (by omega)) (stable_j6 h.1 h.2 _ (fun hx => by simpa using hx)))
  · have eg : gainF flow counts a = (0, 0, false) := by unfold gainF; rw [if_neg h]
    rw [eg]
    refine Ev.neg (by simp) (Ev.succ ?_)
    simp only [laws_FnStable.j6]; exact Ev.neg (by simp) (Ev.now _)
theorem stable_j2 (l flow counts : List Int) (hl : bytesOk l) (h1 : flow.length ≤ 100) (h2 : counts.length ≤ 200) : Ev (fun k => laws_FnStable.j2 k l flow counts (nextFor flow counts).1 (nextFor flow counts).2) true := by
  refine Ev.succ ?_
  simp only [laws_FnStable.j2]
  refine Ev.ite (fun h => ?_) (fun _ => stable_j4 l hl)
  have hc : countsOk flow counts = true := by
    unfold nextFor at h; split at h
    case isTrue hh => exact hh
    case isFalse => simp at h
  have en : nextFor flow counts = ((nextOf flow counts : Int), true) := by unfold nextFor; rw [if_pos hc]
  rw [en]
  obtain ⟨b1, b2, b3, b4, b5, b6⟩ := counts_rd hc
  have hlt := nextOf_lt flow counts (by omega)
  have eg : ∀ j : Nat, j < flow.length → gainF flow counts j = (gn (rd flow j) (rd counts j), gd (rd flow j) (rd counts j), true) := fun j hj => by unfold gainF; rw [if_pos ⟨hc, by omega, by omega⟩]
  refine Ev.bind (Ev.to (impl_GainOf_ev flow counts _ (by omega) (by omega)) (eg _ hlt)) ?_
  refine ev_up flow.length (fun k j => laws_FnStable.l0 k l flow counts true (flow.length : Int) (j : Int) (gn (rd flow (nextOf flow counts)) (rd counts (nextOf flow counts))) (gd (rd flow (nextOf flow counts)) (rd counts (nextOf flow counts)))) _ (fun _ => True) trivial ?_ ?_
  · intro _
    refine Ev.succ ?_
    simp only [laws_FnStable.l0]; exact Ev.neg (by omega) (stable_j4 l hl)
  · intro j hj _ hn
    have hn := hn trivial
    refine Ev.succ ?_
    simp only [laws_FnStable.l0]
    refine Ev.pos (by omega) (Ev.bind (Ev.to (impl_GainOf_ev flow counts _ (by omega) (by omega)) (eg j hj)) ?_)
    rw [w64n hj (by omega)]
    have good : ∀ j : Nat, j < flow.length → goodFrac (gn (rd flow j) (rd counts j)) (gd (rd flow j) (rd counts j)) = true := fun j hj => by
      have := b3 j hj
      have hp := gain_den _ (b4 j hj)
      exact low_good _ _ (by omega) (by omega)
    have hmax := nextOf_max (flow := flow) (counts := counts) (by omega) b2 b4 j hj
    have hl2 := gain_lt_iff (f := rd flow (nextOf flow counts)) (c := rd counts (nextOf flow counts)) (g := rd flow j) (d := rd counts j) (b4 _ hlt) (b4 j hj)
    have ef : lessF (gn (rd flow (nextOf flow counts)) (rd counts (nextOf flow counts))) (gd (rd flow (nextOf flow counts)) (rd counts (nextOf flow counts))) (gn (rd flow j) (rd counts j)) (gd (rd flow j) (rd counts j)) = (false, true) := by
      unfold lessF
      rw [if_pos ((bothGood_iff _ _ _ _).mpr ⟨good _ hlt, good j hj⟩), decide_eq_false (fun hx => by have := hl2.mp hx; omega)]
    exact Ev.bind (Ev.to (impl_LessFrac_ev _ _ _ _) ef) (Ev.pos (by simp) (Ev.pos rfl (Ev.pos rfl (Ev.neg (by simp) hn))))
theorem FnStable : laws_FnStable.Pure := by
  intro l0 l1 _ hl0 hw0 _ hl1 hw1
  have b0 := bytesOk_of l0 hw0
  have b1 := bytesOk_of l1 hw1
  refine Ev.rounds (g := fun k => laws_FnStable.f k l0 l1) ?_
  unfold laws_FnStable.f
  refine Ev.ite (fun _ => Ev.now _) fun _ => ?_
  obtain ⟨flow, counts, e, h1, h2⟩ := spec_DrawIsStable_ev l0 b0
  refine Ev.bind e (Ev.bind (impl_IsStable_ev flow counts (by omega) (by omega)) (Ev.bind (spec_IsStable_ev flow counts (by omega) (by omega)) (Ev.bind (impl_CostOf_ev flow counts (by omega) (by omega)) (Ev.bind (spec_CostOf_ev flow counts (by omega) (by omega)) (Ev.bind (impl_NextFor_ev flow counts (by omega) (by omega)) (Ev.bind (spec_NextFor_ev flow counts (by omega) (by omega)) ?_))))))
  simp only [bne_self_eq_false, beq_self_eq_true, Bool.not_true, Bool.or_self, Bool.false_eq_true, if_false]
  have hj2 := stable_j2 l1 flow counts b1 h1 h2
  refine Ev.succ ?_
  simp only [laws_FnStable.j0, Bool.false_eq_true, if_false]
  have no : Ev (fun k => laws_FnStable.j1 k l1 flow counts (stableF flow counts).1 (nextFor flow counts).1 (nextFor flow counts).2 false (costF flow counts).1 (costF flow counts).2.1) true := by
    refine Ev.succ ?_
    simp only [laws_FnStable.j1]; exact Ev.neg (by simp) hj2
  refine Ev.ite (fun hs => ?_) (fun _ => no)
  by_cases hok : (costF flow counts).2.2 = true
  · rw [hok]
    have hc : countsOk flow counts = true := by
      unfold stableF at hs; split at hs
      case isTrue hh => exact hh
      case isFalse => simp at hs
    obtain ⟨c1, c2, c3, c4⟩ := (countsOk_iff _ _).mp hc
    obtain ⟨hk, s1, hle⟩ := shareOf_least hc
    have hsl := (shareOf_ok hk).2.1
    have es : (if kindsOk flow counts.sum = true then (shareOf flow counts.sum, true) else ([], false)) = (shareOf flow counts.sum, true) := if_pos hk
    refine Ev.succ ?_
    simp only [laws_FnStable.j1]
    refine Ev.pos trivial (Ev.bind (laws_sumOf_ev counts 1 40 c3 (by omega) (by omega) (by omega)) (Ev.bind (Ev.to (impl_ShareOut_ev flow counts.sum (by omega)) es) (Ev.bind (impl_CostOf_ev flow _ (by omega) (by dsimp only; omega)) (Ev.pos rfl (Ev.ite (fun ok2 => Ev.neg ?_ hj2) (fun _ => hj2))))))
    obtain ⟨t1, g1⟩ := costF_isT hc hok
    obtain ⟨t2, g2⟩ := costF_isT s1 ok2
    have hu := isT_unique t1 t2 g1 g2
    have hst := stab_iff_cost hc
    have e1 : (stableF flow counts).1 = stabB flow counts := by unfold stableF; rw [if_pos hc]
    rw [Bool.not_eq_true, bne_eq_false_iff_eq, e1, Bool.eq_iff_iff, hst, Bool.and_eq_true, beq_iff_eq, beq_iff_eq]
    exact hu.symm
  · rw [Bool.eq_false_iff.mpr hok]; exact no
end Go.Proofs.Ythonbjmjhegpdaa.Pure
