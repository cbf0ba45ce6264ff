/- No other counts with as many places cost less, and with a place more just one kind has one more, for drawn flows: no condition but the statement's own. -/
import Derived.Test.YtpagpbamdpllnaaCFnShares1
import Derived.Test.YtpagpbamdpllnaaCFnShares0
import Derived.Test.YtpagpbamdpllnaaCFnShares2
set_option linter.unusedVariables false
set_option linter.unusedSimpArgs false
namespace Go.Proofs.Ytpagpbamdpllnaa.Pure
open Go.RowKit Go.Proofs.Ytpagpbamdpllnaa.Print Go.Proofs.YtpagpbamdpllnaaW.PrintWords Go.Proofs.YtpagpbamdpllnaaW.PrintLast Go.Proofs.YtpagpbamdpllnaaW.PrintMore

def fits (p : Int × Int) : Int × Int × Bool := if goodFrac p.1 p.2 = true then (p.1, p.2, true) else (0, 0, false)
def bothGood (a b c d : Int) : Bool := goodFrac a b && goodFrac c d
theorem bothGood_iff (a b c d : Int) : bothGood a b c d = true ↔ goodFrac a b = true ∧ goodFrac c d = true := by simp [bothGood]
theorem mul_abs_le {a b m n : Int} (ha : -m ≤ a ∧ a ≤ m) (hb : -n ≤ b ∧ b ≤ n) (hm : 0 ≤ m) (hn : 0 ≤ n) : -(m * n) ≤ a * b ∧ a * b ≤ m * n := by
  have h1 : a.natAbs ≤ m.natAbs := by omega
  have h2 : b.natAbs ≤ n.natAbs := by omega
  have h3 : (a * b).natAbs ≤ (m * n).natAbs := by rw [Int.natAbs_mul, Int.natAbs_mul]; exact Nat.mul_le_mul h1 h2
  have h4 : 0 ≤ m * n := Int.mul_nonneg hm hn
  omega
theorem prod_e18 {a b : Int} (ha : -1000000000 ≤ a ∧ a ≤ 1000000000) (hb : -1000000000 ≤ b ∧ b ≤ 1000000000) : -1000000000000000000 ≤ a * b ∧ a * b ≤ 1000000000000000000 := by
  have := mul_abs_le ha hb (by omega) (by omega); omega
theorem prod_pos {a b : Int} (ha : 1 ≤ a ∧ a ≤ 1000000000) (hb : 1 ≤ b ∧ b ≤ 1000000000) : 1 ≤ a * b ∧ a * b ≤ 1000000000000000000 := by
  have h := prod_e18 (a := a) (b := b) (by omega) (by omega)
  have h2 : 0 < a * b := Int.mul_pos (by omega) (by omega)
  omega
def addF (a b c d : Int) : Int × Int × Bool := if bothGood a b c d = true then fits (lowNum (a * d + c * b) (b * d), lowDen (a * d + c * b) (b * d)) else (0, 0, false)
def subF (a b c d : Int) : Int × Int × Bool := if bothGood a b c d = true then fits (lowNum (a * d - c * b) (b * d), lowDen (a * d - c * b) (b * d)) else (0, 0, false)
def mulF (a b c d : Int) : Int × Int × Bool := if bothGood a b c d = true then fits (lowNum (a * c) (b * d), lowDen (a * c) (b * d)) else (0, 0, false)
def divF (a b c d : Int) : Int × Int × Bool := if bothGood a b c d = true ∧ c ≠ 0 then fits (lowNum (a * d) (b * c), lowDen (a * d) (b * c)) else (0, 0, false)
def lessF (a b c d : Int) : Bool × Bool := if bothGood a b c d = true then (decide (a * d < c * b), true) else (false, false)
def floorF (a b : Int) : Int × Bool := if goodFrac a b = true then (a / b, true) else (0, false)

theorem impl_areFracs_ev (l : List S35) (hl : l.length ≤ 1048576) : Ev (fun k => impl_areFracs.f k l) (l.all fun x => goodFrac x.f0 x.f1) := by
  unfold impl_areFracs.f sl0_ContainsFunc.f sl2_IndexFunc.f
  have hc : ∀ x : S35, Ev (fun k => impl_areFracs_1.f k x.f0 x.f1) (!goodFrac x.f0 x.f1) := fun x => by
    unfold impl_areFracs_1.f; exact Ev.bind (impl_GoodFrac_ev _ _) (Ev.now _)
  have hr : ∀ (i : Nat) (h : i < l.length), rd_T35 l (i : Int) = l[i] := fun i h => by simp [rd_T35, h]
  have key : ∃ j : Int, decide (j ≥ 0) = !(l.all fun x => goodFrac x.f0 x.f1) ∧ Ev (fun k => sl2_IndexFunc.l0 k l (l.length : Int) 0) j := by
    have gen : ∀ (d i : Nat), i + d = l.length → ∃ j : Int, decide (j ≥ 0) = !((l.drop i).all fun x => goodFrac x.f0 x.f1) ∧ Ev (fun k => sl2_IndexFunc.l0 k l (l.length : Int) (i : Int)) j := by
      intro d
      induction d with
      | zero =>
        intro i hi
        refine ⟨-1, by rw [List.drop_of_length_le (by omega)]; decide, Ev.succ ?_⟩
        simp only [sl2_IndexFunc.l0]; exact Ev.neg (by omega) (Ev.now _)
      | succ d ih =>
        intro i hi
        have hi' : i < l.length := by omega
        have hd : (l.drop i).all (fun x => goodFrac x.f0 x.f1) = (goodFrac l[i].f0 l[i].f1 && (l.drop (i + 1)).all fun x => goodFrac x.f0 x.f1) := by
          rw [List.drop_eq_getElem_cons hi', List.all_cons]
        cases hg : goodFrac l[i].f0 l[i].f1 with
        | true =>
          obtain ⟨j, hj, hev⟩ := ih (i + 1) (by omega)
          refine ⟨j, by rw [hd, hg, hj]; simp, Ev.succ ?_⟩
          simp only [sl2_IndexFunc.l0]
          refine Ev.pos (lt_len hi') (Ev.pos (by omega) (Ev.pos (lt_len hi') ?_))
          rw [hr i hi', w64 (by omega) (by omega)]
          refine Ev.bind (hc _) (Ev.neg (by rw [hg]; simp) hev)
        | false =>
          refine ⟨i, by rw [hd, hg]; simp, Ev.succ ?_⟩
          simp only [sl2_IndexFunc.l0]
          refine Ev.pos (lt_len hi') (Ev.pos (by omega) (Ev.pos (lt_len hi') ?_))
          rw [hr i hi']
          refine Ev.bind (hc _) (Ev.pos (by rw [hg]; rfl) (Ev.now _))
    have := gen l.length 0 (by omega)
    simpa using this
  obtain ⟨j, hj, hev⟩ := key
  refine Ev.to (Ev.bind (Ev.bind hev (Ev.now _)) (Ev.now _)) ?_
  rw [hj]; simp
theorem impl_two_ev (a b c d : Int) : Ev (fun k => impl_areFracs.f k [(⟨a, b⟩ : S35), (⟨c, d⟩ : S35)]) (bothGood a b c d) :=
  Ev.to (impl_areFracs_ev _ (by simp)) (by simp [bothGood])

theorem impl_lowest_fits (a b : Int) (ha : -9223372036854775808 < a ∧ a < 9223372036854775808) (hb : -9223372036854775808 < b ∧ b < 9223372036854775808) (h0 : b ≠ 0) :
    Ev (fun k => impl_lowest.f k a b) (fits (lowNum a b, lowDen a b)) := impl_lowest_ev a b ha hb h0

theorem impl_AddFrac_ev (a b c d : Int) : Ev (fun k => impl_AddFrac.f k a b c d) (addF a b c d) := by
  unfold impl_AddFrac.f addF
  refine Ev.bind (impl_two_ev a b c d) (Ev.ite (fun h => ?_) (fun h => ?_))
  · rw [if_pos h]
    obtain ⟨h1, h2⟩ := (bothGood_iff _ _ _ _).mp h
    obtain ⟨n1, d1, _⟩ := (goodFrac_iff _ _).mp h1
    obtain ⟨n2, d2, _⟩ := (goodFrac_iff _ _).mp h2
    have p1 := prod_e18 (a := a) (b := d) n1 (by omega)
    have p2 := prod_e18 (a := c) (b := b) n2 (by omega)
    have p3 := prod_pos d1 d2
    rw [w64 (x := a * d) (by omega) (by omega), w64 (x := c * b) (by omega) (by omega), w64 (x := b * d) (by omega) (by omega), w64 (by omega) (by omega)]
    exact Ev.bind (impl_lowest_fits _ _ (by omega) (by omega) (by omega)) (Ev.now _)
  · rw [if_neg h]; exact Ev.now _

theorem impl_LessFrac_ev (a b c d : Int) : Ev (fun k => impl_LessFrac.f k a b c d) (lessF a b c d) := by
  unfold impl_LessFrac.f lessF
  refine Ev.bind (impl_two_ev a b c d) (Ev.ite (fun h => ?_) (fun h => ?_))
  · rw [if_pos h]
    obtain ⟨h1, h2⟩ := (bothGood_iff _ _ _ _).mp h
    obtain ⟨n1, d1, _⟩ := (goodFrac_iff _ _).mp h1
    obtain ⟨n2, d2, _⟩ := (goodFrac_iff _ _).mp h2
    have p1 := prod_e18 (a := a) (b := d) n1 (by omega)
    have p2 := prod_e18 (a := c) (b := b) n2 (by omega)
    refine Ev.bind0 (impl_compareFracs_eq a b c d (by omega) (by omega)) (Ev.of_eq fun _ => ?_)
    by_cases hlt : a * d < c * b
    · simp [hlt]
    · rw [if_neg hlt]; split <;> simp [hlt]
  · rw [if_neg h]; exact Ev.now _

def sumF : List (Int × Int) → Int × Int → Int × Int × Bool
  | [], s => (s.1, s.2, true)
  | x :: l, s => if (addF s.1 s.2 x.1 x.2).2.2 = true then sumF l ((addF s.1 s.2 x.1 x.2).1, (addF s.1 s.2 x.1 x.2).2.1) else (0, 0, false)

theorem impl_sumFracs_ev (l : List S35) (hl : l.length ≤ 1048576) : Ev (fun k => impl_sumFracs.f k l) (sumF (l.map fun x => (x.f0, x.f1)) (0, 1)) := by
  unfold impl_sumFracs.f
  have hr : ∀ (i : Nat) (h : i < l.length), rd_T35 l (i : Int) = l[i] := fun i h => by simp [rd_T35, h]
  have gen : ∀ (d i : Nat) (p q : Int), i + d = l.length → Ev (fun k => impl_sumFracs.l0 k l (l.length : Int) (i : Int) p q) (sumF ((l.drop i).map fun x => (x.f0, x.f1)) (p, q)) := by
    intro d
    induction d with
    | zero =>
      intro i p q hi
      refine Ev.succ ?_
      simp only [impl_sumFracs.l0]; rw [List.drop_of_length_le (by omega)]; exact Ev.neg (by omega) (Ev.now _)
    | succ d ih =>
      intro i p q hi
      have hi' : i < l.length := by omega
      refine Ev.succ ?_
      simp only [impl_sumFracs.l0]
      refine Ev.pos (lt_len hi') (Ev.pos (by omega) (Ev.pos (lt_len hi') ?_))
      rw [hr i hi', w64 (by omega) (by omega), List.drop_eq_getElem_cons hi', List.map_cons, sumF]
      refine Ev.bind (impl_AddFrac_ev _ _ _ _) (Ev.ite (fun h => ?_) (fun h => ?_))
      · rw [if_pos h]; exact ih (i + 1) _ _ (by omega)
      · rw [if_neg h]; exact Ev.now _
  have := gen l.length 0 0 1 (by omega)
  simpa using this

def sumsF (l : List (Int × Int)) : Int × Int × Bool := if l.length ≤ 50 then sumF l (0, 1) else (0, 0, false)

theorem fits_true {p : Int × Int} (h : (fits p).2.2 = true) : goodFrac p.1 p.2 = true ∧ fits p = (p.1, p.2, true) := by
  unfold fits at h ⊢
  split at h
  case isTrue hh => exact ⟨hh, by rw [if_pos hh]⟩
  case isFalse => simp at h
theorem addF_true {a b c d : Int} (h : (addF a b c d).2.2 = true) : bothGood a b c d = true ∧ goodFrac (addF a b c d).1 (addF a b c d).2.1 = true ∧ (addF a b c d) = (lowNum (a * d + c * b) (b * d), lowDen (a * d + c * b) (b * d), true) := by
  unfold addF at h ⊢
  split at h
  case isTrue hh =>
    obtain ⟨h1, h2⟩ := fits_true h
    rw [if_pos hh, h2]; exact ⟨hh, h1, rfl⟩
  case isFalse => simp at h

def bump (flow counts : List Int) : List Int := counts.set (nextOf flow counts) (counts[nextOf flow counts]! + 1)
def shareUp (flow : List Int) : Nat → List Int
  | 0 => List.replicate flow.length 1
  | i + 1 => bump flow (shareUp flow i)
theorem bump_length (flow counts : List Int) : (bump flow counts).length = counts.length := by simp [bump]
theorem shareUp_length (flow : List Int) (i : Nat) : (shareUp flow i).length = flow.length := by
  induction i with
  | zero => simp [shareUp]
  | succ i ih => rw [shareUp, bump_length, ih]
theorem shareUp_bounds (flow : List Int) (h0 : 0 < flow.length) (i : Nat) : ∀ x ∈ shareUp flow i, 1 ≤ x ∧ x ≤ 1 + (i : Int) := by
  induction i with
  | zero => intro x hx; rw [shareUp] at hx; have := List.eq_of_mem_replicate hx; omega
  | succ i ih =>
    intro x hx
    rw [shareUp, bump] at hx
    rcases List.mem_or_eq_of_mem_set hx with h | h
    · have := ih x h; omega
    · have hn : nextOf flow (shareUp flow i) < (shareUp flow i).length := by rw [shareUp_length]; exact nextOf_lt _ _ h0
      have := ih _ (List.getElem_mem hn)
      rw [getElem!_pos (shareUp flow i) _ hn] at h; omega
def shareOf (flow : List Int) (places : Int) : List Int := shareUp flow (places - flow.length).toNat
def kindsOk (flow : List Int) (places : Int) : Bool := flowOk flow && (decide ((flow.length : Int) ≤ places) && decide (places ≤ 40))

theorem spec_l4Share_ev (flow : List Int) (places : Int) (h1 : 1 ≤ flow.length ∧ flow.length ≤ 8) (hf : ∀ x ∈ flow, 1 ≤ x ∧ x ≤ 30) (hp : (flow.length : Int) ≤ places ∧ places ≤ 40) :
    Ev (fun k => spec_l4Share.f k flow places) (shareOf flow places) := by
  unfold spec_l4Share.f
  refine ev_up flow.length (fun k i => spec_l4Share.l0 k flow places (List.replicate i 1) (flow.length : Int) (i : Int)) _ (fun _ => True) trivial ?_ ?_
  · intro _
    refine Ev.succ ?_
    simp only [spec_l4Share.l0]
    refine Ev.neg (by omega) ?_
    have hm : ((places - flow.length).toNat : Int) = places - flow.length := by omega
    rw [show List.replicate flow.length (1 : Int) = shareUp flow 0 from rfl]
    have key := ev_up (places - flow.length).toNat (fun k i => spec_l4Share.l1 k flow places (shareUp flow i) ((flow.length : Int) + (i : Int))) (shareOf flow places) (fun _ => True) trivial ?_ ?_
    · simpa using key
    · intro _
      refine Ev.succ ?_
      simp only [spec_l4Share.l1]
      exact Ev.neg (by omega) (Ev.now _)
    · intro i hi _ hn
      refine Ev.succ ?_
      simp only [spec_l4Share.l1]
      have hc := shareUp_bounds flow (by omega) i
      have hl := shareUp_length flow i
      have hx : nextOf flow (shareUp flow i) < (shareUp flow i).length := by rw [hl]; exact nextOf_lt _ _ (by omega)
      have hb := hc _ (List.getElem_mem hx)
      refine Ev.pos (by omega) (Ev.bind (spec_l4Next_ev flow (shareUp flow i) (by omega) hl hf (fun x hx => by have := hc x hx; omega)) (Ev.pos (by omega) (Ev.pos (lt_len hx) ?_)))
      rw [rd_nat _ _ hx, toNat_nat, w64 (x := _ + 1) (by omega) (by omega), w64 (x := _ + 1) (by omega) (by omega)]
      have hn' := hn trivial
      rw [shareUp, bump, getElem!_pos (shareUp flow i) _ hx] at hn'
      rw [show (flow.length : Int) + (i : Int) + 1 = (flow.length : Int) + ((i + 1 : Nat) : Int) by omega]
      exact hn'
  · intro i hi _ hn
    refine Ev.succ ?_
    simp only [spec_l4Share.l0]
    refine Ev.pos (by omega) (Ev.pos (by rw [List.length_replicate]; omega) ?_)
    rw [w64 (by omega) (by omega), show List.replicate i (1 : Int) ++ [1] = List.replicate (i + 1) 1 by rw [List.replicate_succ']]
    exact hn trivial

theorem impl_shareOut_ev (flow : List Int) (places : Int) (h1 : 1 ≤ flow.length ∧ flow.length ≤ 8) (hf : ∀ x ∈ flow, 1 ≤ x ∧ x ≤ 30) (hp : (flow.length : Int) ≤ places ∧ places ≤ 40) :
    Ev (fun k => impl_shareOut.f k flow places) (shareOf flow places) := by
  unfold impl_shareOut.f
  have hr : slices_Repeat_int_int.f [1] (flow.length : Int) = some (shareUp flow 0) := by
    simp only [slices_Repeat_int_int.f]; rw [if_pos (by omega), toNat_nat]; rfl
  refine Ev.bind0 hr ?_
  rw [w64 (by omega) (by omega)]
  have hm : ((places - flow.length).toNat : Int) = places - flow.length := by omega
  rw [← hm]
  refine ev_up (places - flow.length).toNat (fun k i => impl_shareOut.l0 k flow (shareUp flow i) ((places - flow.length).toNat : Int) (i : Int)) _ (fun _ => True) trivial ?_ ?_
  · intro _
    refine Ev.succ ?_
    simp only [impl_shareOut.l0]
    exact Ev.neg (by omega) (Ev.now _)
  · intro i hi _ hn
    refine Ev.succ ?_
    simp only [impl_shareOut.l0]
    have hc := shareUp_bounds flow (by omega) i
    have hl := shareUp_length flow i
    have hx : nextOf flow (shareUp flow i) < (shareUp flow i).length := by rw [hl]; exact nextOf_lt _ _ (by omega)
    have hb := hc _ (List.getElem_mem hx)
    refine Ev.pos (by omega) (Ev.bind (impl_next_ev flow (shareUp flow i) (by omega) hl hf (fun x hx => by have := hc x hx; omega)) (Ev.pos (by omega) (Ev.pos (lt_len hx) ?_)))
    rw [rd_nat _ _ hx, toNat_nat, w64 (x := _ + 1) (by omega) (by omega), w64 (x := _ + 1) (by omega) (by omega)]
    have hn' := hn trivial
    rw [shareUp, bump, getElem!_pos (shareUp flow i) _ hx] at hn'
    exact hn'

theorem spec_GoodKinds_ev (flow : List Int) (places : Int) (h : flow.length ≤ 1048576) : Ev (fun k => spec_GoodKinds.f k flow places) (kindsOk flow places) := by
  unfold spec_GoodKinds.f kindsOk
  refine Ev.bind (spec_l4Flow_ev flow (by omega)) ?_
  refine Ev.ite (fun hc => ?_) (fun hc => ?_)
  · rw [hc]; exact Ev.bind0 (spec_l1In_eq _ _ _) (by simpa using Ev.now _)
  · rw [Bool.eq_false_iff.mpr hc]; exact Ev.now _
theorem spec_ShareOut_ev (flow : List Int) (places : Int) (h : flow.length ≤ 1048576) : Ev (fun k => spec_ShareOut.f k flow places) (if kindsOk flow places = true then (shareOf flow places, true) else ([], false)) := by
  unfold spec_ShareOut.f
  refine Ev.bind (spec_GoodKinds_ev flow places h) ?_
  refine Ev.ite (fun hc => ?_) (fun hc => ?_)
  · rw [if_pos hc]
    simp only [kindsOk, Bool.and_eq_true, decide_eq_true_eq] at hc
    have hk := (flowOk_iff flow).mp hc.1
    exact Ev.bind (spec_l4Share_ev flow places hk.1 hk.2 hc.2) (Ev.now _)
  · rw [if_neg hc]; exact Ev.now _

theorem impl_GoodKinds_ev (flow : List Int) (places : Int) (h : flow.length ≤ 1048576) : Ev (fun k => impl_GoodKinds.f k flow places) (kindsOk flow places) := by
  unfold impl_GoodKinds.f kindsOk
  refine Ev.bind (impl_isFlow_ev flow (by omega)) ?_
  refine Ev.ite (fun hc => ?_) (fun hc => ?_)
  · rw [hc]; exact Ev.bind0 (impl_within_eq _ _ _) (by simpa using Ev.now _)
  · rw [Bool.eq_false_iff.mpr hc]; exact Ev.now _
theorem impl_ShareOut_ev (flow : List Int) (places : Int) (h : flow.length ≤ 1048576) : Ev (fun k => impl_ShareOut.f k flow places) (if kindsOk flow places = true then (shareOf flow places, true) else ([], false)) := by
  unfold impl_ShareOut.f
  refine Ev.bind (impl_GoodKinds_ev flow places h) ?_
  refine Ev.ite (fun hc => ?_) (fun hc => ?_)
  · rw [if_pos hc]
    simp only [kindsOk, Bool.and_eq_true, decide_eq_true_eq] at hc
    have hk := (flowOk_iff flow).mp hc.1
    exact Ev.bind (impl_shareOut_ev flow places hk.1 hk.2 hc.2) (Ev.now _)
  · rw [if_neg hc]; exact Ev.now _
theorem shareOf_length (flow : List Int) (places : Int) : (if kindsOk flow places = true then (shareOf flow places, true) else (([] : List Int), false)).1.length ≤ 8 := by
  split
  · rename_i hc
    simp only [kindsOk, Bool.and_eq_true, decide_eq_true_eq] at hc
    have hk := (flowOk_iff flow).mp hc.1
    dsimp only; unfold shareOf; rw [shareUp_length]; omega
  · simp

def upFrom (k : Int) (n : Nat) : List Int := (List.range n).map fun (j : Nat) => k + (j : Int)

theorem w64n {i n : Nat} (h : i < n) (hn : n ≤ 4611686018427387904) : wrap64 ((i : Int) + 1) = ((i + 1 : Nat) : Int) := by rw [w64 (by omega) (by omega)]; rfl
def wayOf (a b c d : Int) : Int := if a = c then ((b - d).natAbs : Int) else 3 * ((a - c).natAbs : Int) + (if 40 - (b + d) < b + d then 40 - (b + d) else b + d)
def spotOk (a b : Int) : Bool := (decide (0 ≤ a) && decide (a ≤ 9)) && (decide (0 ≤ b) && decide (b ≤ 20))

theorem laws_sameInts_ev (a b : List Int) (hl : a.length ≤ 4611686018427387904) : Ev (fun k => laws_sameInts.f k a b) (decide (a = b)) := by
  unfold laws_sameInts.f
  refine Ev.ite (fun h => ?_) (fun h => ?_)
  · have hlen : a.length = b.length := by omega
    have gen : ∀ (d i : Nat), i + d = a.length → Ev (fun k => laws_sameInts.l0 k a b (a.length : Int) (i : Int)) (decide (a.drop i = b.drop i)) := by
      intro d
      induction d with
      | zero =>
        intro i hi
        rw [List.drop_of_length_le (by omega), List.drop_of_length_le (by omega)]
        refine Ev.succ ?_
        simp only [laws_sameInts.l0]; exact Ev.neg (by omega) (by simpa using Ev.now true)
      | succ d ih =>
        intro i hi
        have hi' : i < a.length := by omega
        have hi2 : i < b.length := by omega
        rw [List.drop_eq_getElem_cons hi', List.drop_eq_getElem_cons hi2]
        refine Ev.succ ?_
        simp only [laws_sameInts.l0]
        refine Ev.pos (by omega) (Ev.pos (by omega) (Ev.pos (by omega) (Ev.pos (by omega) ?_)))
        rw [rd_nat a i hi', rd_nat b i hi2, w64n hi' (by omega)]
        refine Ev.ite (fun h => ?_) (fun h => ?_)
        · have e : decide (a[i] :: a.drop (i + 1) = b[i] :: b.drop (i + 1)) = decide (a.drop (i + 1) = b.drop (i + 1)) := by
            rw [decide_eq_decide, h]; exact ⟨fun h => (List.cons.inj h).2, fun h => by rw [h]⟩
          rw [e]; exact ih (i + 1) (by omega)
        · have e : decide (a[i] :: a.drop (i + 1) = b[i] :: b.drop (i + 1)) = false := by
            rw [decide_eq_false_iff_not]; intro h2; injection h2 with h3; exact h h3
          rw [e]; exact Ev.now _
    simpa using gen a.length 0 (by omega)
  · have e : decide (a = b) = false := by rw [decide_eq_false_iff_not]; rintro rfl; exact h rfl
    rw [e]; exact Ev.now _
theorem laws_same_ev (a : List Int) (hl : a.length ≤ 4611686018427387904) : Ev (fun k => laws_sameInts.f k a a) true := Ev.to (laws_sameInts_ev a a hl) (by simp)

def jn (E : List (Nat × Nat)) (T : Nat → Bool) : Nat → Nat → Prop
  | 0, u => T u = true
  | n + 1, u => T u = true ∨ ∃ v, ((u, v) ∈ E ∨ (v, u) ∈ E) ∧ jn E T n v
def Jn (E : List (Nat × Nat)) (T : Nat → Bool) (u : Nat) : Prop := ∃ n, jn E T n u
theorem Jn.base {E : List (Nat × Nat)} {T : Nat → Bool} {u : Nat} (h : T u = true) : Jn E T u := ⟨0, h⟩
theorem Jn.step {E : List (Nat × Nat)} {T : Nat → Bool} {u v : Nat} (h : (u, v) ∈ E ∨ (v, u) ∈ E) (k : Jn E T v) : Jn E T u := by
  obtain ⟨n, hn⟩ := k; exact ⟨n + 1, .inr ⟨v, h, hn⟩⟩
theorem Jn.rule {E : List (Nat × Nat)} {T : Nat → Bool} {P : Nat → Prop} (hb : ∀ u, T u = true → P u)
    (hs : ∀ u v, ((u, v) ∈ E ∨ (v, u) ∈ E) → Jn E T v → P v → P u) {u : Nat} (h : Jn E T u) : P u := by
  obtain ⟨n, hn⟩ := h
  induction n generalizing u with
  | zero => exact hb u hn
  | succ n ih =>
    rcases hn with h | ⟨v, h, hv⟩
    · exact hb u h
    · exact hs u v h ⟨n, hv⟩ (ih hv)
theorem Jn.trans {E E' : List (Nat × Nat)} {T T' : Nat → Bool} {u : Nat} (h : Jn E T u) (k : ∀ x, T x = true → Jn E' T' x) (hE : ∀ e ∈ E, e ∈ E') : Jn E' T' u :=
  h.rule k fun _ _ he _ p => Jn.step (he.imp (hE _) (hE _)) p
theorem Jn.move {E : List (Nat × Nat)} {J : Nat → Bool} {v x s : Nat} {e : Nat × Nat} (hxs : e = (x, s) ∨ e = (s, x)) (hs : J s = true)
    (hj : Jn (E.erase e) (fun u => decide (u = v)) x) {u : Nat} (h : Jn E J u) : Jn (E.erase e) (fun y => J y || decide (y = v)) u := by
  have hx : Jn (E.erase e) (fun y => J y || decide (y = v)) x := hj.trans (fun y hy => Jn.base (by simp at hy; simp [hy])) (fun _ h => h)
  have hss : Jn (E.erase e) (fun y => J y || decide (y = v)) s := Jn.base (by simp [hs])
  refine h.rule (P := fun u => Jn (E.erase e) (fun y => J y || decide (y = v)) u) (fun u hu => Jn.base (by simp [hu])) ?_
  intro u w hf _ ih
  by_cases h1 : (u, w) = e
  · rcases hxs with h2 | h2 <;> rw [h2] at h1 <;> injection h1 with h3 h4
    · rw [h3]; exact hx
    · rw [h3]; exact hss
  · by_cases h2 : (w, u) = e
    · rcases hxs with h3 | h3 <;> rw [h3] at h2 <;> injection h2 with h4 h5
      · rw [h5]; exact hss
      · rw [h5]; exact hx
    · refine Jn.step (v := w) ?_ ih
      rcases hf with hf | hf
      · exact .inl ((List.mem_erase_of_ne h1).mpr hf)
      · exact .inr ((List.mem_erase_of_ne h2).mpr hf)
def sumW (w : Nat → Nat → Int) (E : List (Nat × Nat)) : Int := (E.map fun e => w e.1 e.2).sum
def nearUp (w : Nat → Nat → Int) (J : Nat → Bool) (i : Nat) : Nat → Option Nat
  | 0 => none
  | k + 1 => match nearUp w J i k with
    | none => if J k = true then some k else none
    | some m => if J k = true ∧ w i k < w i m then some k else some m
def pickUp (w : Nat → Nat → Int) (J : Nat → Bool) (n : Nat) : Nat → Option (Nat × Nat)
  | 0 => none
  | i + 1 => match pickUp w J n i with
    | none => if J i = true then none else (nearUp w J i n).map fun m => (i, m)
    | some p => if J i = true then some p else match nearUp w J i n with
      | none => some p
      | some m => if w i m < w p.1 p.2 then some (i, m) else some p

def updP (w : Nat → Nat → Int) (J : Nat → Bool) (i : Nat) (p : Option (Nat × Nat)) (m : Option Nat) : Option (Nat × Nat) :=
  if J i = true then p else match m with
    | none => p
    | some m => match p with
      | none => some (i, m)
      | some q => if w i m < w q.1 q.2 then some (i, m) else some q
def jd (J : List Bool) (m : Nat) : Bool := rdOf false J (m : Int)
def primSt (w : Nat → Nat → Int) (n : Nat) : Nat → List Int × Int × List Bool
  | 0 => (List.replicate n (-1), 0, (List.replicate n false).set 0 true)
  | t + 1 => match pickUp w (jd (primSt w n t).2.2) n n with
    | none => primSt w n t
    | some q => ((primSt w n t).1.set q.1 (q.2 : Int), (primSt w n t).2.1 + w q.1 q.2, (primSt w n t).2.2.set q.1 true)
def sumTo (f : Nat → Int) : Nat → Int
  | 0 => 0
  | n + 1 => sumTo f n + f n
theorem sumTo_congr {f g : Nat → Int} {n : Nat} (h : ∀ i, i < n → f i = g i) : sumTo f n = sumTo g n := by
  induction n with
  | zero => rfl
  | succ n ih => rw [sumTo, sumTo, ih (fun i hi => h i (by omega)), h n (by omega)]
theorem sumTo_one {f g : Nat → Int} {n v : Nat} (hv : v < n) (h : ∀ i, i < n → i ≠ v → f i = g i) : sumTo f n = sumTo g n + (f v - g v) := by
  induction n with
  | zero => omega
  | succ n ih =>
    rw [sumTo, sumTo]
    by_cases e : v = n
    · subst e; rw [sumTo_congr (fun i hi => h i (by omega) (by omega))]; omega
    · rw [ih (by omega) (fun i hi hn => h i (by omega) hn), h n (by omega) (by omega)]; omega
theorem sumTo_zero {f : Nat → Int} {n : Nat} (h : ∀ i, i < n → f i = 0) : sumTo f n = 0 := by
  induction n with
  | zero => rfl
  | succ n ih => rw [sumTo, ih (fun i hi => h i (by omega)), h n (by omega)]; rfl
structure PrimOk (w : Nat → Nat → Int) (n : Nat) (E : List (Nat × Nat)) (t : Nat) (s : List Int × Int × List Bool) : Prop where
  l1 : s.1.length = n
  l2 : s.2.2.length = n
  cnt : s.2.2.count true = t + 1
  j0 : jd s.2.2 0 = true
  o0 : rd s.1 0 = -1
  up : ∀ i, i < n → i ≠ 0 → jd s.2.2 i = true → 0 ≤ rd s.1 i ∧ rd s.1 i < n ∧ rd s.1 i ≠ i
  all : ∀ i, i < n → -1 ≤ rd s.1 i ∧ rd s.1 i < n
  sum : s.2.1 = sumTo (fun i => if jd s.2.2 i = true ∧ i ≠ 0 then w i (rd s.1 i).toNat else 0) n
  pot : ∃ E', (∀ e ∈ E', e ∈ E) ∧ sumW w E' + s.2.1 ≤ sumW w E ∧ ∀ u, u < n → Jn E' (jd s.2.2) u
theorem rd_set (l : List Int) (v : Nat) (x : Int) (i : Nat) (h : v < l.length) : rd (l.set v x) i = if i = v then x else rd l i := by
  by_cases hi : i < l.length
  · rw [rd_nat _ _ (by rw [List.length_set]; exact hi), rd_nat _ _ hi, List.getElem_set]
    by_cases e : v = i
    · rw [if_pos e, if_pos e.symm]
    · rw [if_neg e, if_neg (fun h2 => e h2.symm)]
  · rw [if_neg (by omega)]; simp only [rd, toNat_nat]
    rw [List.getD_eq_getElem?_getD, List.getD_eq_getElem?_getD, List.getElem?_eq_none (by rw [List.length_set]; omega), List.getElem?_eq_none (by omega)]

def isqUp (n : Int) : Nat → Int
  | 0 => 0
  | k + 1 => if ((k : Int) + 1) * ((k : Int) + 1) ≤ n then (k : Int) + 1 else isqUp n k
def isq (n : Int) : Int := isqUp n n.toNat
def goodB (a b c d : Int) : Bool := bothGood a b c d && (decide (0 ≤ a) && !decide (c * b < a * d))

def withinB (x y a b c d : Int) : Bool × Bool := if goodFrac x y = true ∧ goodB a b c d = true then (!decide (x * b < a * y) && !decide (c * y < x * d), true) else (false, false)

def rootB (n p : Int) : Int × Int × Int × Int × Bool :=
  if (0 ≤ n ∧ n ≤ 1000000000000) ∧ (1 ≤ p ∧ p ≤ 1000) ∧ n ≤ 1000000000000 / (p * p) then
    (lowNum (isq (n * p * p)) p, lowDen (isq (n * p * p)) p, lowNum (if isq (n * p * p) * isq (n * p * p) = n * p * p then isq (n * p * p) else isq (n * p * p) + 1) p, lowDen (if isq (n * p * p) * isq (n * p * p) = n * p * p then isq (n * p * p) else isq (n * p * p) + 1) p, true)
  else (0, 0, 0, 0, false)
def losOf (l : List S44) : List (Int × Int) := l.map fun b => (b.f0.f0, b.f0.f1)
def hisOf (l : List S44) : List (Int × Int) := l.map fun b => (b.f1.f0, b.f1.f1)
def sumB (l : List S44) : Int × Int × Int × Int × Bool :=
  if l.length ≤ 20 ∧ (l.all fun b => goodB b.f0.f0 b.f0.f1 b.f1.f0 b.f1.f1) = true ∧ (sumF (losOf l) (0, 1)).2.2 = true ∧ (sumF (hisOf l) (0, 1)).2.2 = true then
    ((sumF (losOf l) (0, 1)).1, (sumF (losOf l) (0, 1)).2.1, (sumF (hisOf l) (0, 1)).1, (sumF (hisOf l) (0, 1)).2.1, true)
  else (0, 0, 0, 0, false)

theorem low_lt_iff {a b c d : Int} (hb : 0 < b) (hd : 0 < d) : lowNum a b * lowDen c d < lowNum c d * lowDen a b ↔ a * d < c * b := by
  have x1 := low_cross a b hb
  have x2 := low_cross c d hd
  have p1 := (low_den_pos a b hb).1
  have p2 := (low_den_pos c d hd).1
  generalize lowNum a b = p at *
  generalize lowDen a b = q at *
  generalize lowNum c d = r at *
  generalize lowDen c d = s at *
  have hbd : 0 < b * d := Int.mul_pos hb hd
  have hqs : 0 < q * s := Int.mul_pos (by omega) (by omega)
  have e1 : p * s * (b * d) = a * d * (q * s) := by
    calc p * s * (b * d) = (p * b) * (s * d) := by rw [Int.mul_assoc, Int.mul_assoc, Int.mul_left_comm s b d]
      _ = (a * q) * (s * d) := by rw [x1]
      _ = a * d * (q * s) := by rw [Int.mul_assoc, Int.mul_assoc, Int.mul_comm s d, Int.mul_left_comm q d s]
  have e2 : r * q * (b * d) = c * b * (q * s) := by
    calc r * q * (b * d) = (r * d) * (q * b) := by rw [Int.mul_comm b d, Int.mul_assoc, Int.mul_assoc, Int.mul_left_comm q d b]
      _ = (c * s) * (q * b) := by rw [x2]
      _ = c * b * (q * s) := by rw [Int.mul_assoc, Int.mul_assoc, Int.mul_comm q b, Int.mul_left_comm s b q, Int.mul_comm s q]
  constructor
  · intro h
    have h2 : p * s * (b * d) < r * q * (b * d) := Int.mul_lt_mul_of_pos_right h hbd
    rw [e1, e2] at h2
    exact Int.lt_of_mul_lt_mul_right h2 (by omega)
  · intro h
    have h2 : a * d * (q * s) < c * b * (q * s) := Int.mul_lt_mul_of_pos_right h hqs
    rw [← e1, ← e2] at h2
    exact Int.lt_of_mul_lt_mul_right h2 (by omega)
def csq (n : Int) : Int := if isq n * isq n = n then isq n else isq n + 1
def rootsL (flow : List Int) (p : Int) : Int := (flow.map fun f => isq (f * p * p)).sum
def rootsH (flow : List Int) (p : Int) : Int := (flow.map fun f => csq (f * p * p)).sum
def leastB (flow : List Int) (room p : Int) : Int × Int × Int × Int × Bool :=
  if flowOk flow = true ∧ (8 ≤ room ∧ room ≤ 1000) ∧ (1 ≤ p ∧ p ≤ 100) then
    (lowNum (rootsL flow p * rootsL flow p) (p * p * room), lowDen (rootsL flow p * rootsL flow p) (p * p * room), lowNum (rootsH flow p * rootsH flow p) (p * p * room), lowDen (rootsH flow p * rootsH flow p) (p * p * room), true)
  else (0, 0, 0, 0, false)
def bndOf (p f : Int) : S44 := ⟨⟨lowNum (isq (f * p * p)) p, lowDen (isq (f * p * p)) p⟩, ⟨lowNum (csq (f * p * p)) p, lowDen (csq (f * p * p)) p⟩⟩
theorem cur_flow (l : List Int) (a s : Int) (hl : bytesOk l) (ha : 0 ≤ a ∧ a ≤ 4611686018427380000) :
    ∃ (r : List Int) (a' s' : Int), Ev (fun k => spec_l1Cur_flow.f k l a s) (r, a', s') ∧ r.length ≤ 100 ∧ a ≤ a' ∧ a' ≤ a + 1000 := by
  have loop : ∀ (n : Nat) (x : List Int) (a s : Int), x.length + n ≤ 100 → (0 ≤ a ∧ a + 2 * n + 10 ≤ 4611686018427387000) →
      ∃ (r : List Int) (a' s' : Int), Ev (fun k => spec_l1Cur_flow.l0 k x (n : Int) l a s) (r, a', s') ∧ r.length ≤ 100 ∧ a ≤ a' ∧ a' ≤ a + 2 * n + 10 := by
    intro n
    induction n with
    | zero =>
      intro x a s hx ha
      have step : ∀ {r : List Int × Int × Int}, Ev (fun k => if (x.length : Int) > 0 then ((spec_l1Cur_one.f l a s 30).bind fun bt119 => (if bt119.1 = true then ((spec_l1Cur_among.f l bt119.2.1 bt119.2.2 (([0, 31] : List Int))).bind fun bt125 => (if 0 < (x.length : Int) then (some ((x.set (0 : Int).toNat bt125.1), bt125.2.1, bt125.2.2)) else (none))) else (some (x, bt119.2.1, bt119.2.2)))) else (some (x, a, s))) r → Ev (fun k => spec_l1Cur_flow.l0 k x ((0 : Nat) : Int) l a s) r := fun h => by
        refine Ev.succ ?_; simp only [spec_l1Cur_flow.l0]; exact Ev.neg (by omega) h
      by_cases h0 : (x.length : Int) > 0
      · obtain ⟨b, a1, s1, e1, h1⟩ := cur_one l a s 30 hl (by omega)
        cases b with
        | true =>
          obtain ⟨m, a2, s2, e2, h2, h3⟩ := cur_among l a1 s1 [0, 31] hl (by omega) (by simp)
          exact ⟨_, a2, s2, step (Ev.pos h0 (Ev.bind0 e1 (Ev.pos rfl (Ev.bind0 e2 (Ev.pos (by omega) (Ev.now _)))))), by rw [List.length_set]; omega, by omega, by omega⟩
        | false => exact ⟨x, a1, s1, step (Ev.pos h0 (Ev.bind0 e1 (Ev.neg (by simp) (Ev.now _)))), by omega, by omega, by omega⟩
      · exact ⟨x, a, s, step (Ev.neg h0 (Ev.now _)), by omega, by omega, by omega⟩
    | succ n ih =>
      intro x a s hx ha
      obtain ⟨p, a1, s1, e, h0, h1, h2⟩ := cur_pick l a s 30 hl (by omega)
      obtain ⟨r, a2, s2, hr, h3, h4, h5⟩ := ih (x ++ [wrap64 (1 + p)]) a1 s1 (by simp; omega) (by omega)
      refine ⟨r, a2, s2, Ev.succ ?_, h3, by omega, by omega⟩
      simp only [spec_l1Cur_flow.l0]
      refine Ev.pos (by omega) (Ev.bind0 e (Ev.pos (by omega) ?_))
      rw [w64 (x := ((n + 1 : Nat) : Int) - 1) (by omega) (by omega), show ((n + 1 : Nat) : Int) - 1 = (n : Int) by omega]
      exact hr
  unfold spec_l1Cur_flow.f
  obtain ⟨n, a1, s1, e1, h0, h1, h2⟩ := cur_pick l a s 4 hl (by omega)
  obtain ⟨b, a2, s2, e2, h3⟩ := cur_one l a1 s1 12 hl (by omega)
  cases b with
  | true =>
    obtain ⟨m, a3, s3, e3, h4, h5⟩ := cur_among l a2 s2 [0, 8, 9] hl (by omega) (by simp)
    simp only [List.mem_cons, List.not_mem_nil, or_false] at h4
    obtain ⟨r, a4, s4, hr, h6, h7, h8⟩ := loop m.toNat [] a3 s3 (by simp; omega) (by omega)
    rw [show (m.toNat : Int) = m by omega] at hr
    refine ⟨r, a4, s4, Ev.bind0 e1 (Ev.bind0 e2 (Ev.pos rfl (Ev.bind0 e3 (Ev.succ ?_)))), h6, by omega, by omega⟩
    simp only [spec_l1Cur_flow.j0]; exact hr
  | false =>
    obtain ⟨r, a4, s4, hr, h6, h7, h8⟩ := loop (1 + n).toNat [] a2 s2 (by simp; omega) (by omega)
    rw [show ((1 + n).toNat : Int) = 1 + n by omega] at hr
    refine ⟨r, a4, s4, Ev.bind0 e1 (Ev.bind0 e2 (Ev.neg (by simp) (Ev.succ ?_))), h6, by omega, by omega⟩
    simp only [spec_l1Cur_flow.j0]; rw [w64 (by omega) (by omega)]; exact hr

def allTo (P : Nat → Bool) (n : Nat) : Bool := (List.range n).all P
def KK : Int := 219060189739591200
def kd (c : Int) : Int := KK / c
def gK (c : Int) : Int := kd c - kd (c + 1)
theorem kd_nat : ∀ n : Nat, n < 42 → 1 ≤ n → (n : Int) * kd n = KK ∧ 0 < kd n := by decide +kernel
theorem kd_mul {c : Int} (h : 1 ≤ c ∧ c ≤ 41) : c * kd c = KK ∧ 0 < kd c := by
  have := kd_nat c.toNat (by omega) (by omega)
  rwa [show ((c.toNat : Nat) : Int) = c by omega] at this
theorem gK_nat : ∀ n : Nat, n < 40 → 1 ≤ n → gK ((n : Int) + 1) ≤ gK n := by decide +kernel
theorem gK_mono {c : Int} (h : 1 ≤ c ∧ c ≤ 39) : gK (c + 1) ≤ gK c := by
  have := gK_nat c.toNat (by omega) (by omega)
  rwa [show ((c.toNat : Nat) : Int) = c by omega] at this
theorem gK_mul {c : Int} (h : 1 ≤ c ∧ c ≤ 40) : gK c * (c * (c + 1)) = KK := by
  have h1 := (kd_mul (c := c) (by omega)).1
  have h2 := (kd_mul (c := c + 1) (by omega)).1
  unfold gK
  rw [Int.sub_mul]
  have e1 : kd c * (c * (c + 1)) = KK * (c + 1) := by rw [← Int.mul_assoc, Int.mul_comm (kd c), h1]
  have e2 : kd (c + 1) * (c * (c + 1)) = KK * c := by rw [Int.mul_comm c, ← Int.mul_assoc, Int.mul_comm (kd (c + 1)), h2]
  rw [e1, e2, Int.mul_add]; omega
theorem KK_pos : 0 < KK := by decide
theorem gain_lt_iff {f c g d : Int} (hc : 1 ≤ c ∧ c ≤ 40) (hd : 1 ≤ d ∧ d ≤ 40) : gn f c * gd g d < gn g d * gd f c ↔ f * gK c < g * gK d := by
  have p1 := gain_den c hc
  have p2 := gain_den d hd
  unfold gn gd
  rw [low_lt_iff (by omega) (by omega)]
  have e1 : f * gK c * (c * (c + 1) * (d * (d + 1))) = f * (d * (d + 1)) * KK := by
    rw [← gK_mul hc]
    generalize c * (c + 1) = P
    generalize d * (d + 1) = Q
    rw [Int.mul_assoc, Int.mul_assoc]; congr 1
    rw [← Int.mul_assoc, Int.mul_comm Q]
  have e2 : g * gK d * (c * (c + 1) * (d * (d + 1))) = g * (c * (c + 1)) * KK := by
    rw [← gK_mul hd]
    generalize c * (c + 1) = P
    generalize d * (d + 1) = Q
    rw [Int.mul_assoc, Int.mul_assoc]; congr 1
    rw [Int.mul_left_comm]
  have hp : 0 < c * (c + 1) * (d * (d + 1)) := Int.mul_pos (by omega) (by omega)
  constructor
  · intro h
    have h2 : f * (d * (d + 1)) * KK < g * (c * (c + 1)) * KK := Int.mul_lt_mul_of_pos_right h KK_pos
    rw [← e1, ← e2] at h2
    exact Int.lt_of_mul_lt_mul_right h2 (by omega)
  · intro h
    have h2 : f * gK c * (c * (c + 1) * (d * (d + 1))) < g * gK d * (c * (c + 1) * (d * (d + 1))) := Int.mul_lt_mul_of_pos_right h hp
    rw [e1, e2] at h2
    exact Int.lt_of_mul_lt_mul_right h2 (Int.le_of_lt KK_pos)

def Stab (n : Nat) (f c : Nat → Int) : Prop := ∀ i k, i < n → k < n → i ≠ k → 1 < c i → f k * gK (c k) ≤ f i * gK (c i - 1)
theorem arg_max (n : Nat) (G : Nat → Int) (hn : 0 < n) : ∃ m, m < n ∧ ∀ k, k < n → G k ≤ G m := by
  induction n with
  | zero => omega
  | succ n ih =>
    rcases Nat.eq_zero_or_pos n with h0 | h0
    · exact ⟨0, by omega, fun k hk => by rw [show k = 0 by omega]; exact Int.le_refl _⟩
    · obtain ⟨m, hm, hmax⟩ := ih h0
      rcases Int.lt_or_le (G m) (G n) with h1 | h1
      · exact ⟨n, by omega, fun k hk => by
          rcases Nat.lt_or_ge k n with h2 | h2
          · have := hmax k h2; omega
          · rw [show k = n by omega]; exact Int.le_refl _⟩
      · exact ⟨m, by omega, fun k hk => by
          rcases Nat.lt_or_ge k n with h2 | h2
          · exact hmax k h2
          · rw [show k = n by omega]; exact h1⟩
theorem gK_le {c x : Int} (h1 : 1 ≤ c) (h2 : c ≤ x) (h3 : x ≤ 40) : gK x ≤ gK c := by
  have : ∀ d : Nat, c + d ≤ 40 → gK (c + d) ≤ gK c := by
    intro d
    induction d with
    | zero => intro _; simp
    | succ d ih =>
      intro hd
      have h4 := ih (by omega)
      have h5 := gK_mono (c := c + d) (by omega)
      rw [show c + ((d + 1 : Nat) : Int) = c + d + 1 by omega]; omega
  have := this (x - c).toNat (by omega)
  rwa [show c + ((x - c).toNat : Int) = x by omega] at this
theorem priced {f c x L : Int} (hf : 0 ≤ f) (hc : 1 ≤ c ∧ c ≤ 40) (hx : 1 ≤ x ∧ x ≤ 40) (h1 : f * gK c ≤ L) (h2 : 1 < c → L ≤ f * gK (c - 1)) : f * kd c + L * c ≤ f * kd x + L * x := by
  have up : ∀ d : Nat, c + d ≤ 40 → f * kd c + L * c ≤ f * kd (c + d) + L * (c + d) := by
    intro d
    induction d with
    | zero => intro _; simp
    | succ d ih =>
      intro hd
      have h4 := ih (by omega)
      have h5 := gK_le (c := c) (x := c + d) hc.1 (by omega) (by omega)
      have h6 := Int.mul_le_mul_of_nonneg_left h5 hf
      have e : kd (c + d + 1) = kd (c + d) - gK (c + d) := by unfold gK; omega
      rw [show c + ((d + 1 : Nat) : Int) = c + d + 1 by omega, e, Int.mul_sub, Int.mul_add L (c + d) 1]; omega
  have down : ∀ d : Nat, 1 ≤ c - d → f * kd c + L * c ≤ f * kd (c - d) + L * (c - d) := by
    intro d
    induction d with
    | zero => intro _; simp
    | succ d ih =>
      intro hd
      have h4 := ih (by omega)
      have h5 := gK_le (c := c - d - 1) (x := c - 1) (by omega) (by omega) (by omega)
      have h6 := Int.mul_le_mul_of_nonneg_left h5 hf
      have h7 := h2 (by omega)
      have e : kd (c - d - 1) = kd (c - d) + gK (c - d - 1) := by unfold gK; rw [show c - d - 1 + 1 = c - d by omega]; omega
      rw [show c - ((d + 1 : Nat) : Int) = c - d - 1 by omega, e, Int.mul_add, Int.mul_sub L (c - d) 1]; omega
  rcases Int.le_total c x with h | h
  · have := up (x - c).toNat (by omega)
    rwa [show c + ((x - c).toNat : Int) = x by omega] at this
  · have := down (c - x).toNat (by omega)
    rwa [show c - ((c - x).toNat : Int) = x by omega] at this
theorem sumTo_add (f g : Nat → Int) (n : Nat) : sumTo (fun i => f i + g i) n = sumTo f n + sumTo g n := by
  induction n with
  | zero => rfl
  | succ n ih => simp only [sumTo, ih]; omega
theorem sumTo_mul (f : Nat → Int) (L : Int) (n : Nat) : sumTo (fun i => L * f i) n = L * sumTo f n := by
  induction n with
  | zero => simp [sumTo]
  | succ n ih => simp only [sumTo, ih, Int.mul_add]
theorem sumTo_le {f g : Nat → Int} {n : Nat} (h : ∀ i, i < n → f i ≤ g i) : sumTo f n ≤ sumTo g n := by
  induction n with
  | zero => exact Int.le_refl _
  | succ n ih => have := ih fun i hi => h i (by omega)
                 have := h n (by omega)
                 simp only [sumTo]; omega
def costN (n : Nat) (f c : Nat → Int) : Int := sumTo (fun i => f i * kd (c i)) n
theorem stab_opt {n : Nat} {f c d : Nat → Int} (hn : 0 < n) (hf : ∀ i, i < n → 0 ≤ f i) (hc : ∀ i, i < n → 1 ≤ c i ∧ c i ≤ 40) (hd : ∀ i, i < n → 1 ≤ d i ∧ d i ≤ 40) (hs : sumTo c n = sumTo d n) (h : Stab n f c) : costN n f c ≤ costN n f d := by
  obtain ⟨m, hm, hmax⟩ := arg_max n (fun k => f k * gK (c k)) hn
  have key : sumTo (fun i => f i * kd (c i) + f m * gK (c m) * c i) n ≤ sumTo (fun i => f i * kd (d i) + f m * gK (c m) * d i) n := by
    refine sumTo_le fun i hi => priced (hf i hi) (hc i hi) (hd i hi) (hmax i hi) fun h1 => ?_
    by_cases e : i = m
    · subst e
      have := gK_le (c := c i - 1) (x := c i) (by omega) (by omega) (hc i hi).2
      exact Int.mul_le_mul_of_nonneg_left this (hf i hi)
    · exact h i m hi hm e h1
  rw [sumTo_add, sumTo_add, sumTo_mul, sumTo_mul, hs] at key
  unfold costN; omega
theorem rd_bang (l : List Int) (i : Nat) (h : i < l.length) : l[i]! = rd l i := by rw [getElem!_pos l i h, rd_nat l i h]
theorem gainLt_iff {flow counts : List Int} {b i : Nat} (hb : b < flow.length) (hi : i < flow.length) (hl : counts.length = flow.length) (hc : ∀ j : Nat, j < flow.length → 1 ≤ rd counts j ∧ rd counts j ≤ 40) :
    gainLt flow counts b i = true ↔ rd flow b * gK (rd counts b) < rd flow i * gK (rd counts i) := by
  unfold gainLt
  rw [decide_eq_true_eq, rd_bang flow b hb, rd_bang flow i hi, rd_bang counts b (by omega), rd_bang counts i (by omega), gain_lt_iff (hc b hb) (hc i hi)]
theorem bestUp_max {lt : Nat → Nat → Bool} {G : Nat → Int} {n : Nat} (hn : 0 < n) (hlt : ∀ b i, b < n → i < n → (lt b i = true ↔ G b < G i)) : ∀ i, i ≤ n → ∀ j, j < i → G j ≤ G (bestUp lt i) := by
  intro i
  induction i with
  | zero => intro _ j hj; omega
  | succ i ih =>
    intro hi j hj
    have hb := bestUp_lt lt n i hn (by omega)
    have h1 := hlt (bestUp lt i) i hb (by omega)
    rw [bestUp_succ]
    split
    · rename_i h2
      have h3 := h1.mp h2
      rcases Nat.lt_or_ge j i with h4 | h4
      · have := ih (by omega) j h4; omega
      · rw [show j = i by omega]; exact Int.le_refl _
    · rename_i h2
      have h3 : ¬ G (bestUp lt i) < G i := fun h => h2 (h1.mpr h)
      rcases Nat.lt_or_ge j i with h4 | h4
      · exact ih (by omega) j h4
      · rw [show j = i by omega]; omega
theorem nextOf_max {flow counts : List Int} (h0 : 0 < flow.length) (hl : counts.length = flow.length) (hc : ∀ j : Nat, j < flow.length → 1 ≤ rd counts j ∧ rd counts j ≤ 40) (k : Nat) (hk : k < flow.length) :
    rd flow k * gK (rd counts k) ≤ rd flow (nextOf flow counts) * gK (rd counts (nextOf flow counts)) :=
  bestUp_max (G := fun (j : Nat) => rd flow j * gK (rd counts j)) h0 (fun b i hb hi => gainLt_iff hb hi hl hc) flow.length (Nat.le_refl _) k hk
theorem rd_mem {l : List Int} {j : Nat} (h : j < l.length) : rd l j ∈ l := by rw [rd_nat l j h]; exact List.getElem_mem h
theorem sum_eq_sumTo (l : List Int) : l.sum = sumTo (fun (j : Nat) => rd l j) l.length := by
  have gen : ∀ i, i ≤ l.length → (l.take i).sum = sumTo (fun (j : Nat) => rd l j) i := by
    intro i
    induction i with
    | zero => intro _; rfl
    | succ i ih => intro hi; rw [sum_take_succ l i (by omega), ih (by omega), sumTo, rd_nat l i (by omega)]
  have := gen l.length (Nat.le_refl _)
  rwa [List.take_length] at this
theorem bump_rd {flow counts : List Int} (h0 : 0 < flow.length) (hl : counts.length = flow.length) (j : Nat) :
    rd (bump flow counts) j = if j = nextOf flow counts then rd counts (nextOf flow counts) + 1 else rd counts j := by
  have hb := nextOf_lt flow counts h0
  unfold bump
  rw [rd_set _ _ _ _ (by omega), rd_bang counts _ (by omega)]
theorem shareUp_stab {flow : List Int} (h1 : 1 ≤ flow.length ∧ flow.length ≤ 8) (hf : ∀ x ∈ flow, 1 ≤ x ∧ x ≤ 30) : ∀ t : Nat, t ≤ 39 → Stab flow.length (fun j => rd flow j) (fun j => rd (shareUp flow t) j) ∧ (shareUp flow t).sum = flow.length + t := by
  intro t
  have hl : ∀ t, (shareUp flow t).length = flow.length := shareUp_length flow
  have hb : ∀ t : Nat, ∀ j : Nat, j < flow.length → 1 ≤ rd (shareUp flow t) j ∧ rd (shareUp flow t) j ≤ 1 + t := fun t j hj => shareUp_bounds flow (by omega) t _ (rd_mem (by rw [hl]; exact hj))
  induction t with
  | zero =>
    intro _
    have e : shareUp flow 0 = List.replicate flow.length 1 := rfl
    constructor
    · intro i k hi hk _ h
      have := hb 0 i hi
      dsimp only at h; omega
    · rw [e]; simp
  | succ t ih =>
    intro ht
    obtain ⟨ih1, ih2⟩ := ih (by omega)
    have e : shareUp flow (t + 1) = bump flow (shareUp flow t) := rfl
    have hb' : ∀ j : Nat, j < flow.length → 1 ≤ rd (shareUp flow t) j ∧ rd (shareUp flow t) j ≤ 40 := fun j hj => by have := hb t j hj; omega
    have hm := nextOf_max (counts := shareUp flow t) (by omega) (hl t) hb'
    have hlt := nextOf_lt flow (shareUp flow t) (by omega)
    have hr := bump_rd (flow := flow) (counts := shareUp flow t) (by omega) (hl t)
    rw [e]
    constructor
    · intro i k hi hk hik h
      dsimp only at h ⊢
      rw [hr] at h
      rw [hr, hr]
      by_cases ei : i = nextOf flow (shareUp flow t)
      · rw [if_pos ei, if_neg (fun h => hik (ei.trans h.symm)), Int.add_sub_cancel, ei]
        exact hm k hk
      · rw [if_neg ei] at h ⊢
        by_cases ek : k = nextOf flow (shareUp flow t)
        · rw [if_pos ek, ek]
          have h2 := ih1 i (nextOf flow (shareUp flow t)) hi hlt ei h
          have h3 := hb t _ hlt
          have h4 := gK_mono (c := rd (shareUp flow t) (nextOf flow (shareUp flow t))) (by omega)
          have h5 := Int.mul_le_mul_of_nonneg_left h4 (show 0 ≤ rd flow (nextOf flow (shareUp flow t)) by have := hf _ (rd_mem hlt); omega)
          dsimp only at h2; omega
        · rw [if_neg ek]; exact ih1 i k hi hk hik h
    · rw [sum_eq_sumTo, bump_length, hl]
      rw [sumTo_one (g := fun (j : Nat) => rd (shareUp flow t) j) hlt (fun j hj hne => by rw [hr, if_neg hne]), hr, if_pos rfl]
      rw [sum_eq_sumTo, hl] at ih2
      omega

def tK (x : Int × Int) : Int := x.1 * KK / x.2
def isT (x : Int × Int) (t : Int) : Prop := 1 ≤ x.2 ∧ x.1 * KK = x.2 * t
theorem isT_tK {x : Int × Int} {t : Int} (h : isT x t) : tK x = t := by
  unfold tK; rw [h.2]; exact Int.mul_ediv_cancel_left _ (by have := h.1; omega)
theorem low_isT {f c t : Int} (hc : 0 < c) (h : f * KK = c * t) : isT (lowNum f c, lowDen f c) t := by
  refine ⟨(low_den_pos f c hc).1, ?_⟩
  have x := low_cross f c hc
  dsimp only
  have e : lowNum f c * KK * c = lowDen f c * t * c := by
    calc lowNum f c * KK * c = (lowNum f c * c) * KK := by rw [Int.mul_right_comm]
      _ = (f * lowDen f c) * KK := by rw [x]
      _ = (f * KK) * lowDen f c := by rw [Int.mul_right_comm]
      _ = (c * t) * lowDen f c := by rw [h]
      _ = lowDen f c * t * c := by rw [Int.mul_comm (c * t), Int.mul_comm c t, Int.mul_assoc]
  exact Int.eq_of_mul_eq_mul_right (by omega) e
theorem isT_lt {x y : Int × Int} {s t : Int} (hx : isT x s) (hy : isT y t) : x.1 * y.2 < y.1 * x.2 ↔ s < t := by
  have hp : 0 < x.2 * y.2 := Int.mul_pos (by have := hx.1; omega) (by have := hy.1; omega)
  have e1 : x.1 * y.2 * KK = s * (x.2 * y.2) := by rw [Int.mul_right_comm, hx.2, Int.mul_comm x.2 s, Int.mul_assoc]
  have e2 : y.1 * x.2 * KK = t * (x.2 * y.2) := by rw [Int.mul_right_comm, hy.2, Int.mul_comm y.2 t, Int.mul_assoc, Int.mul_comm y.2 x.2]
  constructor
  · intro h
    have h2 : x.1 * y.2 * KK < y.1 * x.2 * KK := Int.mul_lt_mul_of_pos_right h KK_pos
    rw [e1, e2] at h2
    exact Int.lt_of_mul_lt_mul_right h2 (by omega)
  · intro h
    have h2 : s * (x.2 * y.2) < t * (x.2 * y.2) := Int.mul_lt_mul_of_pos_right h hp
    rw [← e1, ← e2] at h2
    exact Int.lt_of_mul_lt_mul_right h2 (Int.le_of_lt KK_pos)
theorem add_isT {x y : Int × Int} {s t : Int} (hx : isT x s) (hy : isT y t) (ok : (addF x.1 x.2 y.1 y.2).2.2 = true) : isT ((addF x.1 x.2 y.1 y.2).1, (addF x.1 x.2 y.1 y.2).2.1) (s + t) ∧ goodFrac (addF x.1 x.2 y.1 y.2).1 (addF x.1 x.2 y.1 y.2).2.1 = true := by
  obtain ⟨h1, h2, h3⟩ := addF_true ok
  refine ⟨?_, h2⟩
  rw [h3]
  have := hx.1
  have := hy.1
  refine low_isT (Int.mul_pos (by omega) (by omega)) ?_
  rw [Int.add_mul, Int.mul_add]
  congr 1
  · rw [Int.mul_right_comm, hx.2, Int.mul_right_comm]
  · rw [Int.mul_right_comm, hy.2, Int.mul_comm x.2 y.2, Int.mul_right_comm]
theorem sumF_isT (l : List (Int × Int)) (t : Int × Int → Int) : ∀ (s : Int × Int) (T : Int), (∀ x ∈ l, isT x (t x)) → isT s T → goodFrac s.1 s.2 = true → (sumF l s).2.2 = true →
    isT ((sumF l s).1, (sumF l s).2.1) (T + (l.map t).sum) ∧ goodFrac (sumF l s).1 (sumF l s).2.1 = true := by
  induction l with
  | nil => intro s T _ hs hg _; simp only [sumF, List.map_nil, List.sum_nil, Int.add_zero]; exact ⟨hs, hg⟩
  | cons x l ih =>
    intro s T hl hs hg ok
    rw [sumF] at ok ⊢
    split at ok
    case isTrue hh =>
      rw [if_pos hh]
      obtain ⟨h1, h2⟩ := add_isT hs (hl x (by simp)) hh
      have := ih _ _ (fun y hy => hl y (by simp [hy])) h1 h2 ok
      rw [List.map_cons, List.sum_cons, ← Int.add_assoc]; exact this
    case isFalse => simp at ok
def ratioL (flow counts : List Int) : List (Int × Int) := (List.range flow.length).map fun (j : Nat) => (lowNum (rd flow j) (rd counts j), lowDen (rd flow j) (rd counts j))
def costF (flow counts : List Int) : Int × Int × Bool := if countsOk flow counts = true then sumF (ratioL flow counts) (0, 1) else (0, 0, false)
theorem range_sum (f : Nat → Int) (n : Nat) : ((List.range n).map f).sum = sumTo f n := by
  induction n with
  | zero => rfl
  | succ n ih => rw [List.range_succ, List.map_append, List.sum_append, ih, sumTo]; simp
theorem counts_rd {flow counts : List Int} (h : countsOk flow counts = true) : (1 ≤ flow.length ∧ flow.length ≤ 8) ∧ counts.length = flow.length ∧ (∀ j : Nat, j < flow.length → 1 ≤ rd flow j ∧ rd flow j ≤ 30) ∧ (∀ j : Nat, j < flow.length → 1 ≤ rd counts j ∧ rd counts j ≤ 40) ∧ sumTo (fun (j : Nat) => rd counts j) flow.length ≤ 40 ∧ counts.sum = sumTo (fun (j : Nat) => rd counts j) flow.length := by
  obtain ⟨h1, h2, h3, h4⟩ := (countsOk_iff _ _).mp h
  obtain ⟨f1, f2⟩ := (flowOk_iff _).mp h1
  have e := sum_eq_sumTo counts
  rw [h2] at e
  exact ⟨f1, h2, fun j hj => f2 _ (rd_mem hj), fun j hj => h3 _ (rd_mem (by omega)), by omega, e⟩
theorem costF_isT {flow counts : List Int} (h : countsOk flow counts = true) (ok : (costF flow counts).2.2 = true) :
    isT ((costF flow counts).1, (costF flow counts).2.1) (costN flow.length (fun j => rd flow j) (fun j => rd counts j)) ∧ goodFrac (costF flow counts).1 (costF flow counts).2.1 = true := by
  obtain ⟨h1, h2, h3, h4, _⟩ := counts_rd h
  have e : costF flow counts = sumF (ratioL flow counts) (0, 1) := by unfold costF; rw [if_pos h]
  rw [e] at ok ⊢
  have hT : ∀ j : Nat, j < flow.length → isT (lowNum (rd flow j) (rd counts j), lowDen (rd flow j) (rd counts j)) (rd flow j * kd (rd counts j)) := fun j hj => by
    have h5 := h4 j hj
    refine low_isT (by omega) ?_
    rw [← (kd_mul (c := rd counts j) (by omega)).1, Int.mul_left_comm]
  have := sumF_isT (ratioL flow counts) tK (0, 1) 0 (fun x hx => by
      simp only [ratioL, List.mem_map, List.mem_range] at hx
      obtain ⟨j, hj, rfl⟩ := hx
      rw [isT_tK (hT j hj)]; exact hT j hj) ⟨by decide, by decide⟩ (by decide) ok
  have e2 : ((ratioL flow counts).map tK).sum = costN flow.length (fun j => rd flow j) (fun j => rd counts j) := by
    unfold ratioL costN
    rw [List.map_map, range_sum]
    exact sumTo_congr fun j hj => isT_tK (hT j hj)
  rw [e2, Int.zero_add] at this
  exact this

def viol (flow counts : List Int) (i k : Nat) : Bool := decide (i ≠ k ∧ 1 < rd counts i ∧ rd flow i * gK (rd counts i - 1) < rd flow k * gK (rd counts k))
def stabB (flow counts : List Int) : Bool := allTo (fun i => allTo (fun k => !viol flow counts i k) flow.length) flow.length
def stableF (flow counts : List Int) : Bool × Bool := if countsOk flow counts = true then (stabB flow counts, true) else (false, false)

def ratioS (flow counts : List Int) (n : Nat) : List S35 := (List.range n).map fun (j : Nat) => ⟨lowNum (rd flow j) (rd counts j), lowDen (rd flow j) (rd counts j)⟩
theorem ratioS_succ (flow counts : List Int) (n : Nat) : ratioS flow counts (n + 1) = ratioS flow counts n ++ [⟨lowNum (rd flow n) (rd counts n), lowDen (rd flow n) (rd counts n)⟩] := by unfold ratioS; rw [List.range_succ, List.map_append]; rfl
theorem ratioS_map (flow counts : List Int) : (ratioS flow counts flow.length).map (fun x => (x.f0, x.f1)) = ratioL flow counts := by unfold ratioS ratioL; rw [List.map_map]; rfl
theorem impl_CostOf_ev (flow counts : List Int) (h1 : flow.length ≤ 1048576) (h2 : counts.length ≤ 1048576) : Ev (fun k => impl_CostOf.f k flow counts) (costF flow counts) := by
  unfold impl_CostOf.f costF
  refine Ev.bind (impl_areCounts_ev flow counts h1 h2) (Ev.ite (fun h => ?_) (fun h => by rw [if_neg h]; exact Ev.now _))
  rw [if_pos h]
  obtain ⟨b1, b2, b3, b4, _⟩ := counts_rd h
  have key : Ev (fun k => impl_ratios.f k flow counts) (sumF (ratioL flow counts) (0, 1)) := by
    unfold impl_ratios.f
    refine ev_up flow.length (fun k i => impl_ratios.l0 k counts (ratioS flow counts i) flow (flow.length : Int) (i : Int)) _ (fun _ => True) trivial ?_ ?_
    · intro _
      refine Ev.succ ?_
      simp only [impl_ratios.l0]
      refine Ev.neg (by omega) ?_
      have := impl_sumFracs_ev (ratioS flow counts flow.length) (by simp [ratioS]; omega)
      rw [ratioS_map] at this
      exact Ev.bind this (Ev.now _)
    · intro i hi _ hn
      have hn := hn trivial
      have c1 := b4 i hi
      have f1 := b3 i hi
      refine Ev.succ ?_
      simp only [impl_ratios.l0]
      refine Ev.pos (by omega) (Ev.pos (by omega) (Ev.pos (by omega) (Ev.pos (by omega) ?_)))
      rw [w64n hi (by omega)]
      have e : fits (lowNum (rd flow i) (rd counts i), lowDen (rd flow i) (rd counts i)) = (lowNum (rd flow i) (rd counts i), lowDen (rd flow i) (rd counts i), true) := by
        unfold fits; rw [if_pos (low_good _ _ (by omega) (by omega))]
      refine Ev.bind (Ev.to (impl_lowest_fits _ _ (by omega) (by omega) (by omega)) e) (Ev.pos (by simp [ratioS]; omega) ?_)
      rw [ratioS_succ] at hn; exact hn
  exact Ev.bind key (Ev.now _)

theorem cur_placesFor (l : List Int) (a s : Int) (l1 : List Int) (hl : bytesOk l) (ha : 0 ≤ a ∧ a ≤ 4611686018427387000) :
    ∃ r a' s', spec_l1Cur_placesFor.f l a s l1 = some (r, a', s') ∧ a ≤ a' ∧ a' ≤ a + 4 := by
  unfold spec_l1Cur_placesFor.f
  obtain ⟨b, a1, s1, e1, h1⟩ := cur_one l a s 12 hl (by omega)
  rw [e1]
  cases b with
  | true =>
    obtain ⟨n, a2, s2, e2, h2, h3⟩ := cur_among l a1 s1 [0, 40, 41] hl (by omega) (by simp)
    exact ⟨n, a2, s2, by simp only [Option.bind_some, if_true, e2], by omega, by omega⟩
  | false =>
    obtain ⟨n, a2, s2, e2, h2, h3, h4⟩ := cur_pick l a1 s1 9 hl (by omega)
    exact ⟨_, a2, s2, by simp only [Option.bind_some, if_false, e2, Bool.false_eq_true]; rfl, by omega, by omega⟩

theorem laws_sumOf_ev (l : List Int) (lo hi : Int) (h : ∀ x ∈ l, lo ≤ x ∧ x ≤ hi) (hlo : -1048576 ≤ lo) (hhi : hi ≤ 1073741824) (hl : l.length ≤ 1048576) : Ev (fun k => laws_sumOf.f k l) l.sum := by
  unfold laws_sumOf.f
  refine ev_up l.length (fun k i => laws_sumOf.l0 k (l.take i).sum l (l.length : Int) (i : Int)) _ (fun _ => True) trivial ?_ ?_
  · intro _
    refine Ev.step0 (Ev.of_eq fun _ => rfl) fun k => ?_
    simp only [laws_sumOf.l0]; rw [if_neg (by omega), List.take_length]
  · intro i hi' _ hn
    have hs := sum_take_succ l i hi'
    have hb := sum_bounds (l.take (i + 1)) (-1048576) 1073741824 fun x hx => by have := h x (List.mem_of_mem_take hx); omega
    have hlen : (l.take (i + 1)).length ≤ 1048576 := by rw [List.length_take]; omega
    refine Ev.step0 (hn trivial) fun k => ?_
    simp only [laws_sumOf.l0]; rw [if_pos (lt_len hi'), if_pos (by omega), if_pos (lt_len hi'), rd_nat l i hi', ← hs, w64 (by omega) (by omega), w64 (by omega) (by omega)]; rfl

theorem shareOf_ok {flow : List Int} {places : Int} (h : kindsOk flow places = true) : countsOk flow (shareOf flow places) = true ∧ (shareOf flow places).length = flow.length ∧ (shareOf flow places).sum = places ∧ Stab flow.length (fun j => rd flow j) (fun j => rd (shareOf flow places) j) := by
  simp only [kindsOk, Bool.and_eq_true, decide_eq_true_eq] at h
  obtain ⟨h1, h2, h3⟩ := h
  obtain ⟨f1, f2⟩ := (flowOk_iff flow).mp h1
  have hs := shareUp_stab f1 f2 (places - flow.length).toNat (by omega)
  have hb := shareUp_bounds flow (by omega) (places - flow.length).toNat
  have hsum : (shareOf flow places).sum = places := by unfold shareOf; rw [hs.2]; omega
  have hlen : (shareOf flow places).length = flow.length := shareUp_length _ _
  refine ⟨(countsOk_iff _ _).mpr ⟨h1, hlen, fun x hx => by have := hb x hx; omega, by omega⟩, hlen, hsum, hs.1⟩

def moreOf (flow : List Int) (n : Nat) : List (List Int) := (List.range n).map fun t => shareUp flow t
theorem moreOf_length (flow : List Int) (n : Nat) : (moreOf flow n).length = n := by simp [moreOf]
theorem moreOf_succ (flow : List Int) (n : Nat) : moreOf flow (n + 1) = moreOf flow n ++ [shareUp flow n] := by unfold moreOf; rw [List.range_succ, List.map_append]; rfl
def moreN (flow : List Int) (places : Int) : Nat := (places - flow.length + 1).toNat
def moreF (flow : List Int) (places : Int) : List (List Int) × Bool := if kindsOk flow places = true then (moreOf flow (moreN flow places), true) else ([], false)

theorem moreOf_rd (flow : List Int) (n i : Nat) (h : i < n) : rd_L2 (moreOf flow n) (i : Int) = shareUp flow i := by
  simp [rd_L2, moreOf, h]

theorem impl_ShareMore_ev (flow : List Int) (places : Int) (h : flow.length ≤ 1048576) : Ev (fun k => impl_ShareMore.f k flow places) (moreF flow places) := by
  unfold impl_ShareMore.f moreF
  refine Ev.bind (impl_GoodKinds_ev flow places h) (Ev.ite (fun hk => ?_) (fun hk => by rw [if_neg hk]; exact Ev.now _))
  rw [if_pos hk]
  simp only [kindsOk, Bool.and_eq_true, decide_eq_true_eq] at hk
  obtain ⟨h1, h2, h3⟩ := hk
  obtain ⟨f1, f2⟩ := (flowOk_iff flow).mp h1
  have key := ev_up (moreN flow places) (fun k t => impl_ShareMore.l0 k flow places (moreOf flow t) ((flow.length : Int) + (t : Int))) (moreOf flow (moreN flow places), true) (fun _ => True) trivial ?_ ?_
  · simpa [moreOf] using key
  · intro _
    refine Ev.succ ?_
    simp only [impl_ShareMore.l0]
    exact Ev.neg (by unfold moreN; omega) (Ev.now _)
  · intro t ht _ hn
    have ht' : (t : Int) ≤ places - flow.length := by unfold moreN at ht; omega
    refine Ev.succ ?_
    simp only [impl_ShareMore.l0]
    have e : shareOf flow ((flow.length : Int) + t) = shareUp flow t := by unfold shareOf; congr 1; omega
    refine Ev.pos (by omega) (Ev.bind (Ev.to (impl_shareOut_ev flow _ f1 f2 (by omega)) e) (Ev.pos (by rw [moreOf_length]; omega) ?_))
    rw [w64 (by omega) (by omega), ← moreOf_succ, Int.add_assoc]
    exact hn trivial

theorem spec_ShareMore_ev (flow : List Int) (places : Int) (h : flow.length ≤ 1048576) : Ev (fun k => spec_ShareMore.f k flow places) (moreF flow places) := by
  unfold spec_ShareMore.f moreF
  refine Ev.bind (spec_GoodKinds_ev flow places h) (Ev.ite (fun hk => ?_) (fun hk => by rw [if_neg hk]; exact Ev.now _))
  rw [if_pos hk]
  simp only [kindsOk, Bool.and_eq_true, decide_eq_true_eq] at hk
  obtain ⟨h1, h2, h3⟩ := hk
  obtain ⟨f1, f2⟩ := (flowOk_iff flow).mp h1
  have key := ev_up (moreN flow places) (fun k t => spec_ShareMore.l0 k flow places (moreOf flow t) ((flow.length : Int) + (t : Int))) (moreOf flow (moreN flow places), true) (fun _ => True) trivial ?_ ?_
  · simpa [moreOf] using key
  · intro _
    refine Ev.succ ?_
    simp only [spec_ShareMore.l0]
    exact Ev.neg (by unfold moreN; omega) (Ev.now _)
  · intro t ht _ hn
    have ht' : (t : Int) ≤ places - flow.length := by unfold moreN at ht; omega
    refine Ev.succ ?_
    simp only [spec_ShareMore.l0]
    have e : shareOf flow ((flow.length : Int) + t) = shareUp flow t := by unfold shareOf; congr 1; omega
    refine Ev.pos (by omega) (Ev.bind (Ev.to (spec_l4Share_ev flow _ f1 f2 (by omega)) e) (Ev.pos (by rw [moreOf_length]; omega) ?_))
    rw [w64 (by omega) (by omega), ← moreOf_succ, Int.add_assoc]
    exact hn trivial

theorem spec_DrawShareOut_ev (l : List Int) (hl : bytesOk l) : ∃ (flow : List Int) (places : Int), Ev (fun k => spec_DrawShareOut.f k l) (flow, places) ∧ flow.length ≤ 100 := by
  unfold spec_DrawShareOut.f spec_DrawGoodKinds.f
  obtain ⟨flow, a1, s1, e1, q1, q2, q3⟩ := cur_flow l 0 0 hl (by omega)
  obtain ⟨p, a2, s2, e2, _⟩ := cur_placesFor l a1 s1 flow hl (by omega)
  exact ⟨flow, p, Ev.bind (Ev.bind e1 (Ev.bind0 e2 (Ev.now _))) (Ev.now _), q1⟩

theorem shares_cost {flow c other : List Int} (hk : kindsOk flow c.sum = true) (hc : c = shareOf flow c.sum) (ho : countsOk flow other = true) (hs : other.sum = c.sum) :
    Ev (fun k => (impl_CostOf.f k flow c).bind fun bt150 => ((impl_CostOf.f k flow other).bind fun bt154 => (if bt150.2.2 = true then (laws_FnShares.j6 k bt154.2.2 bt150.1 bt150.2.1 bt154.1 bt154.2.1) else (laws_FnShares.j6 k false bt150.1 bt150.2.1 bt154.1 bt154.2.1)))) true := by
  obtain ⟨s1, s2, s3, s4⟩ := shareOf_ok hk
  rw [← hc] at s1 s2 s4
  obtain ⟨b1, b2, b3, b4, b5, b6⟩ := counts_rd s1
  obtain ⟨c1, c2, c3, c4, c5, c6⟩ := counts_rd ho
  refine Ev.bind (impl_CostOf_ev flow c (by omega) (by omega)) (Ev.bind (impl_CostOf_ev flow other (by omega) (by omega)) ?_)
  have no : ∀ p q r s, Ev (fun k => laws_FnShares.j6 k false p q r s) true := fun p q r s => by
    refine Ev.succ ?_; simp only [laws_FnShares.j6]; exact Ev.neg (by simp) (Ev.now _)
  refine Ev.ite (fun ok1 => ?_) (fun _ => no _ _ _ _)
  by_cases ok2 : (costF flow other).2.2 = true
  · rw [ok2]
    refine Ev.succ ?_
    simp only [laws_FnShares.j6]
    obtain ⟨t1, g1⟩ := costF_isT s1 ok1
    obtain ⟨t2, g2⟩ := costF_isT ho ok2
    have hle := stab_opt (f := fun (j : Nat) => rd flow j) (by omega) (fun i hi => by have := b3 i hi; omega) b4 c4 (by rw [← b6, ← c6, hs]) s4
    have hlt := isT_lt t2 t1
    have e : lessF (costF flow other).1 (costF flow other).2.1 (costF flow c).1 (costF flow c).2.1 = (false, true) := by
      unfold lessF; rw [if_pos ((bothGood_iff _ _ _ _).mpr ⟨g2, g1⟩), decide_eq_false (fun hx => by have := hlt.mp hx; omega)]
    exact Ev.pos trivial (Ev.bind (Ev.to (impl_LessFrac_ev _ _ _ _) e) (Ev.pos rfl (Ev.neg (by simp) (Ev.now _))))
  · rw [Bool.eq_false_iff.mpr ok2]; exact no _ _ _ _
theorem shares_other {flow c : List Int} (l : List Int) (hb : bytesOk l) (hl : l.length ≤ 1048576) (hk : kindsOk flow c.sum = true) (hc : c = shareOf flow c.sum) :
    ∀ (d i : Nat) (other : List Int), i + d = l.length → countsOk flow other = true → other.sum = c.sum → Ev (fun k => laws_FnShares.l3 k flow c other l (l.length : Int) (i : Int)) true := by
  intro d
  induction d with
  | zero =>
    intro i other hi ho hs
    refine Ev.succ ?_
    simp only [laws_FnShares.l3]
    exact Ev.neg (by omega) (shares_cost hk hc ho hs)
  | succ d ih =>
    intro i other hi ho hs
    have hi' : i < l.length := by omega
    have hx := hb l[i] (List.getElem_mem hi')
    obtain ⟨b1, b2, b3, b4, b5, b6⟩ := counts_rd ho
    obtain ⟨q1, q2, q3, q4⟩ := (countsOk_iff _ _).mp ho
    refine Ev.succ ?_
    simp only [laws_FnShares.l3]
    refine Ev.pos (by omega) (Ev.pos (by omega) (Ev.pos (by omega) (Ev.neg (by omega) ?_)))
    rw [rd_nat l i hi', w64n hi' (by omega), w64 (x := l[i]) (by omega) (by omega), w64 (x := l[i] + i) (by omega) (by omega), Int.tdiv_eq_ediv_of_nonneg (a := l[i]) (by omega), w64 (x := l[i] / 8) (by omega) (by omega)]
    have a0 := Int.tmod_nonneg (other.length : Int) (show 0 ≤ l[i] + i by omega)
    have a1 := Int.tmod_lt_of_pos (l[i] + i) (show (0 : Int) < other.length by omega)
    have e0 := Int.tmod_nonneg (other.length : Int) (show 0 ≤ l[i] / 8 by omega)
    have e1 := Int.tmod_lt_of_pos (l[i] / 8) (show (0 : Int) < other.length by omega)
    generalize Int.tmod (l[i] + i) other.length = a at a0 a1 ⊢
    generalize Int.tmod (l[i] / 8) other.length = b at e0 e1 ⊢
    obtain ⟨p, rfl⟩ := exists_nat_of_nonneg a0
    obtain ⟨q, rfl⟩ := exists_nat_of_nonneg e0
    have hp : p < flow.length := by omega
    have hq : q < flow.length := by omega
    refine Ev.ite (fun _ => Ev.pos a0 (Ev.pos a1 (Ev.ite (fun hgt => Ev.bind0 rfl (Ev.pos e0 (Ev.pos e1 ?_))) (fun _ => ih (i + 1) other (by omega) ho hs)))) (fun _ => ih (i + 1) other (by omega) ho hs)
    have p1 := b4 p hp
    have p2 := b4 q hq
    rw [toNat_nat, toNat_nat, w64 (x := rd other p - 1) (by omega) (by omega)]
    have r1 : ∀ j : Nat, rd (other.set p (rd other p - 1)) j = if j = p then rd other p - 1 else rd other j := fun j => rd_set _ _ _ _ (by omega)
    have r2 : rd (other.set p (rd other p - 1)) q = if q = p then rd other p - 1 else rd other q := r1 q
    have hr : 1 ≤ rd (other.set p (rd other p - 1)) q ∧ rd (other.set p (rd other p - 1)) q ≤ 40 := by rw [r2]; split <;> omega
    rw [w64 (x := rd (other.set p (rd other p - 1)) q + 1) (by omega) (by omega)]
    have r3 : ∀ j : Nat, rd ((other.set p (rd other p - 1)).set q (rd (other.set p (rd other p - 1)) q + 1)) j = if j = q then rd (other.set p (rd other p - 1)) q + 1 else rd (other.set p (rd other p - 1)) j := fun j => rd_set _ _ _ _ (by rw [List.length_set]; omega)
    have hlen : ((other.set p (rd other p - 1)).set q (rd (other.set p (rd other p - 1)) q + 1)).length = flow.length := by rw [List.length_set, List.length_set]; exact q2
    have hsum : ((other.set p (rd other p - 1)).set q (rd (other.set p (rd other p - 1)) q + 1)).sum = c.sum := by
      have s1 : sumTo (fun (j : Nat) => rd ((other.set p (rd other p - 1)).set q (rd (other.set p (rd other p - 1)) q + 1)) j) flow.length = sumTo (fun (j : Nat) => rd (other.set p (rd other p - 1)) j) flow.length + (rd ((other.set p (rd other p - 1)).set q (rd (other.set p (rd other p - 1)) q + 1)) q - rd (other.set p (rd other p - 1)) q) :=
        sumTo_one (f := fun (j : Nat) => rd ((other.set p (rd other p - 1)).set q (rd (other.set p (rd other p - 1)) q + 1)) j) (g := fun (j : Nat) => rd (other.set p (rd other p - 1)) j) hq (fun j _ hj => by rw [r3, if_neg hj])
      have s2 : sumTo (fun (j : Nat) => rd (other.set p (rd other p - 1)) j) flow.length = sumTo (fun (j : Nat) => rd other j) flow.length + (rd (other.set p (rd other p - 1)) p - rd other p) :=
        sumTo_one (f := fun (j : Nat) => rd (other.set p (rd other p - 1)) j) (g := fun (j : Nat) => rd other j) hp (fun j _ hj => by rw [r1, if_neg hj])
      have s3 := r3 q
      have s4 := r1 p
      rw [if_pos rfl] at s3 s4
      rw [sum_eq_sumTo, hlen]
      omega
    refine ih (i + 1) _ (by omega) ((countsOk_iff _ _).mpr ⟨q1, hlen, fun x hx => ?_, by omega⟩) hsum
    -- each is one at least, and all together forty at most
    have lo : ∀ j : Nat, j < flow.length → 1 ≤ rd ((other.set p (rd other p - 1)).set q (rd (other.set p (rd other p - 1)) q + 1)) j := fun j hj => by
      rw [r3]; split
      · omega
      · rw [r1]; have := b4 j hj; split <;> omega
    obtain ⟨j, hj, rfl⟩ := List.getElem_of_mem hx
    have hj' : j < flow.length := by omega
    rw [← rd_nat]
    refine ⟨lo j hj', ?_⟩
    have t1 : sumTo (fun (m : Nat) => rd ((other.set p (rd other p - 1)).set q (rd (other.set p (rd other p - 1)) q + 1)) m) flow.length = sumTo (fun (m : Nat) => if m = j then 0 else rd ((other.set p (rd other p - 1)).set q (rd (other.set p (rd other p - 1)) q + 1)) m) flow.length + (rd ((other.set p (rd other p - 1)).set q (rd (other.set p (rd other p - 1)) q + 1)) j - (if j = j then 0 else rd ((other.set p (rd other p - 1)).set q (rd (other.set p (rd other p - 1)) q + 1)) j)) :=
      sumTo_one (f := fun (m : Nat) => rd ((other.set p (rd other p - 1)).set q (rd (other.set p (rd other p - 1)) q + 1)) m) (g := fun (m : Nat) => if m = j then 0 else rd ((other.set p (rd other p - 1)).set q (rd (other.set p (rd other p - 1)) q + 1)) m) hj' (fun m _ hm => by rw [if_neg hm])
    have t2 : 0 ≤ sumTo (fun (m : Nat) => if m = j then 0 else rd ((other.set p (rd other p - 1)).set q (rd (other.set p (rd other p - 1)) q + 1)) m) flow.length := by
      have := sumTo_le (f := fun _ => 0) (g := fun (m : Nat) => if m = j then 0 else rd ((other.set p (rd other p - 1)).set q (rd (other.set p (rd other p - 1)) q + 1)) m) (n := flow.length) (fun m hm => by have := lo m hm; split <;> omega)
      rwa [sumTo_zero (f := fun _ => 0) (fun _ _ => rfl)] at this
    rw [if_pos rfl] at t1
    rw [sum_eq_sumTo, hlen] at hsum
    omega
theorem shares_rise {flow c : List Int} (l : List Int) (hb : bytesOk l) (hl : l.length ≤ 1048576) (hk : kindsOk flow c.sum = true) (hc : c = shareOf flow c.sum) :
    ∀ (d m : Nat), m + d = moreN flow c.sum → 1 ≤ m → Ev (fun k => laws_FnShares.l1 k l flow c (moreOf flow (moreN flow c.sum)) (m : Int)) true := by
  have hk' := hk
  simp only [kindsOk, Bool.and_eq_true, decide_eq_true_eq] at hk'
  obtain ⟨h1, h2, h3⟩ := hk'
  obtain ⟨f1, f2⟩ := (flowOk_iff flow).mp h1
  obtain ⟨s1, s2, s3, s4⟩ := shareOf_ok hk
  rw [← hc] at s1 s2
  have hN : (moreN flow c.sum : Int) = c.sum - flow.length + 1 := by unfold moreN; omega
  intro d
  induction d with
  | zero =>
    intro m hm h0
    refine Ev.succ ?_
    simp only [laws_FnShares.l1]
    rw [moreOf_length]
    refine Ev.neg (by omega) (Ev.bind0 rfl (Ev.pos (by simp; omega) ?_))
    rw [List.nil_append]
    exact shares_other l hb hl hk hc l.length 0 c (by omega) s1 rfl
  | succ d ih =>
    intro m hm h0
    have hst := fun t (ht : t ≤ 39) => shareUp_stab f1 f2 t ht
    have hbd : ∀ t : Nat, ∀ x ∈ shareUp flow t, 1 ≤ x ∧ x ≤ 1 + (t : Int) := shareUp_bounds flow (by omega)
    have u1 := (hst m (by omega)).2
    have u2 := (hst (m - 1) (by omega)).2
    refine Ev.succ ?_
    simp only [laws_FnShares.l1]
    rw [moreOf_length, w64 (x := (m : Int) - 1) (by omega) (by omega), show ((m : Int) - 1) = ((m - 1 : Nat) : Int) by omega, moreOf_rd _ _ m (by omega), moreOf_rd _ _ (m - 1) (by omega)]
    have w1 := laws_sumOf_ev (shareUp flow m) 1 (1 + m) (hbd m) (by omega) (by omega) (by rw [shareUp_length]; omega)
    have w2 := laws_sumOf_ev (shareUp flow (m - 1)) 1 (1 + (m - 1 : Nat)) (hbd (m - 1)) (by omega) (by omega) (by rw [shareUp_length]; omega)
    refine Ev.pos (by omega) (Ev.pos (by omega) (Ev.bind w1 (Ev.pos (by omega) (Ev.pos (by omega) (Ev.bind w2 ?_)))))
    rw [w64 (by omega) (by omega), u1, u2]
    refine Ev.pos (by omega) ?_
    rw [shareUp_length]
    refine ev_up flow.length (fun k j => laws_FnShares.l2 k l flow c (moreOf flow (moreN flow c.sum)) (m : Int) (flow.length : Int) (j : Int)) _ (fun _ => True) trivial ?_ ?_
    · intro _
      refine Ev.succ ?_
      simp only [laws_FnShares.l2]
      refine Ev.neg (by omega) ?_
      rw [w64 (by omega) (by omega)]
      exact ih (m + 1) (by omega) (by omega)
    · intro j hj _ hn
      have hn := hn trivial
      refine Ev.succ ?_
      simp only [laws_FnShares.l2]
      rw [moreOf_length, w64 (x := (m : Int) - 1) (by omega) (by omega), show ((m : Int) - 1) = ((m - 1 : Nat) : Int) by omega, moreOf_rd _ _ m (by omega), moreOf_rd _ _ (m - 1) (by omega), shareUp_length, shareUp_length, w64n hj (by omega)]
      refine Ev.pos (by omega) (Ev.pos (by omega) (Ev.pos (by omega) (Ev.pos (by omega) (Ev.pos (by omega) (Ev.pos (by omega) (Ev.pos (by omega) (Ev.pos (by omega) (Ev.neg ?_ hn))))))))
      have e : shareUp flow m = bump flow (shareUp flow (m - 1)) := by
        obtain ⟨t, rfl⟩ : ∃ t, m = t + 1 := ⟨m - 1, by omega⟩
        rfl
      rw [e, bump_rd (by omega) (shareUp_length _ _)]
      split
      · rename_i hj2; rw [hj2]; omega
      · omega
theorem FnShares : laws_FnShares.Pure := by
  intro l0 l1 _ hl0 hw0 _ hl1 hw1
  have b0 := bytesOk_of l0 hw0
  have b1 := bytesOk_of l1 hw1
  refine Ev.rounds (g := fun k => laws_FnShares.f k l0 l1) ?_
  unfold laws_FnShares.f
  refine Ev.ite (fun _ => Ev.now _) fun hg => ?_
  rw [w64 (by omega) (by omega)] at hg
  obtain ⟨flow, places, e, h1⟩ := spec_DrawShareOut_ev l0 b0
  refine Ev.bind e (Ev.bind (impl_ShareOut_ev flow places (by omega)) (Ev.bind (spec_ShareOut_ev flow places (by omega)) (Ev.bind (impl_ShareMore_ev flow places (by omega)) (Ev.bind (spec_ShareMore_ev flow places (by omega)) ?_))))
  simp only [bne_self_eq_false, Bool.false_eq_true, if_false, if_true]
  have hlen8 := shareOf_length flow places
  refine Ev.bind (laws_same_ev _ (by omega)) (Ev.pos rfl (Ev.bind (impl_GoodKinds_ev flow places (by omega)) ?_))
  unfold moreF
  by_cases hk : kindsOk flow places = true
  · rw [if_pos hk, if_pos hk, hk]
    dsimp only
    have hk' := hk
    simp only [kindsOk, Bool.and_eq_true, decide_eq_true_eq] at hk'
    obtain ⟨k1, k2, k3⟩ := hk'
    obtain ⟨f1, f2⟩ := (flowOk_iff flow).mp k1
    obtain ⟨s1, s2, s3, s4⟩ := shareOf_ok hk
    have hN : (moreN flow places : Int) = places - flow.length + 1 := by unfold moreN; omega
    refine Ev.succ ?_
    simp only [laws_FnShares.j0, bne_self_eq_false, Bool.false_eq_true, if_false]
    rw [moreOf_length]
    refine ev_up (moreN flow places) (fun k i => laws_FnShares.l0 k l1 flow places (shareOf flow places) true (moreOf flow (moreN flow places)) true (moreOf flow (moreN flow places)) (moreN flow places : Int) (i : Int)) _ (fun _ => True) trivial ?_ ?_
    · intro _
      refine Ev.succ ?_
      simp only [laws_FnShares.l0]
      obtain ⟨c1, c2, c3, c4⟩ := (countsOk_iff _ _).mp s1
      refine Ev.neg (by omega) (Ev.pos trivial (Ev.bind (laws_sumOf_ev _ 1 40 c3 (by omega) (by omega) (by omega)) (Ev.pos s3 (Ev.pos trivial ?_))))
      rw [moreOf_length, w64 (x := places - flow.length) (by omega) (by omega), w64 (x := places - flow.length + 1) (by omega) (by omega), w64 (x := (moreN flow places : Int) - 1) (by omega) (by omega), show ((moreN flow places : Int) - 1) = ((moreN flow places - 1 : Nat) : Int) by omega, moreOf_rd _ _ _ (by omega)]
      have e : shareUp flow (moreN flow places - 1) = shareOf flow places := by unfold shareOf; congr 1; omega
      rw [e]
      refine Ev.pos hN (Ev.pos (by omega) (Ev.pos (by omega) (Ev.bind (laws_same_ev _ (by omega)) (Ev.succ ?_))))
      simp only [laws_FnShares.j2]
      refine Ev.neg (by simp) ?_
      have hrise := shares_rise (flow := flow) (c := shareOf flow places) l1 b1 (by omega) (by rw [s3]; exact hk) (by rw [s3]) (moreN flow places - 1) 1 (by rw [s3]; omega) (by omega)
      rw [s3] at hrise; exact hrise
    · intro i hi _ hn
      have hn := hn trivial
      refine Ev.succ ?_
      simp only [laws_FnShares.l0]
      rw [moreOf_length, moreOf_rd _ _ i hi, w64n hi (by omega)]
      exact Ev.pos (by omega) (Ev.pos (by omega) (Ev.pos (by omega) (Ev.pos (by omega) (Ev.bind (laws_same_ev _ (by rw [shareUp_length]; omega)) (Ev.pos rfl hn)))))
  · rw [if_neg hk, if_neg hk, Bool.eq_false_iff.mpr hk]
    dsimp only
    refine Ev.succ ?_
    simp only [laws_FnShares.j0, bne_self_eq_false, Bool.false_eq_true, if_false]
    refine Ev.succ ?_
    simp only [laws_FnShares.l0]
    exact Ev.neg (by simp) (Ev.neg (by simp) (Ev.now _))
end Go.Proofs.Ytpagpbamdpllnaa.Pure
