/- Finer bounds of the least cost lie within the others, for drawn flows: no condition but the statement's own. -/
import Derived.Test.YthonbjmjhegpdaaCFnLeast1
import Derived.Test.YthonbjmjhegpdaaCFnLeast0
import Derived.Test.YthonbjmjhegpdaaCFnLeast2
import Derived.Test.YthonbjmjhegpdaaCFnLeast4
import Derived.Test.YthonbjmjhegpdaaCFnLeast3
set_option linter.unusedVariables false
set_option linter.unusedSimpArgs false
namespace Go.Proofs.Ythonbjmjhegpdaa.Pure
open Go.RowKit Go.Proofs.Ythonbjmjhegpdaa.Print Go.Proofs.YthonbjmjhegpdaaW.PrintWords Go.Proofs.YthonbjmjhegpdaaW.PrintLast Go.Proofs.YthonbjmjhegpdaaW.PrintMore

def fits (p : Int × Int) : Int × Int × Bool := if goodFrac p.1 p.2 = true then (p.1, p.2, true) else (0, 0, false)
def bothGood (a b c d : Int) : Bool := goodFrac a b && goodFrac c d
theorem bothGood_iff (a b c d : Int) : bothGood a b c d = true ↔ goodFrac a b = true ∧ goodFrac c d = true := by simp [bothGood]
theorem mul_abs_le {a b m n : Int} (ha : -m ≤ a ∧ a ≤ m) (hb : -n ≤ b ∧ b ≤ n) (hm : 0 ≤ m) (hn : 0 ≤ n) : -(m * n) ≤ a * b ∧ a * b ≤ m * n := by
  have h1 : a.natAbs ≤ m.natAbs := by omega
  have h2 : b.natAbs ≤ n.natAbs := by omega
  have h3 : (a * b).natAbs ≤ (m * n).natAbs := by rw [Int.natAbs_mul, Int.natAbs_mul]; exact Nat.mul_le_mul h1 h2
  have h4 : 0 ≤ m * n := Int.mul_nonneg hm hn
  omega
theorem prod_e18 {a b : Int} (ha : -1000000000 ≤ a ∧ a ≤ 1000000000) (hb : -1000000000 ≤ b ∧ b ≤ 1000000000) : -1000000000000000000 ≤ a * b ∧ a * b ≤ 1000000000000000000 := by
  have := mul_abs_le ha hb (by omega) (by omega); omega
theorem prod_pos {a b : Int} (ha : 1 ≤ a ∧ a ≤ 1000000000) (hb : 1 ≤ b ∧ b ≤ 1000000000) : 1 ≤ a * b ∧ a * b ≤ 1000000000000000000 := by
  have h := prod_e18 (a := a) (b := b) (by omega) (by omega)
  have h2 : 0 < a * b := Int.mul_pos (by omega) (by omega)
  omega
def addF (a b c d : Int) : Int × Int × Bool := if bothGood a b c d = true then fits (lowNum (a * d + c * b) (b * d), lowDen (a * d + c * b) (b * d)) else (0, 0, false)
def subF (a b c d : Int) : Int × Int × Bool := if bothGood a b c d = true then fits (lowNum (a * d - c * b) (b * d), lowDen (a * d - c * b) (b * d)) else (0, 0, false)
def mulF (a b c d : Int) : Int × Int × Bool := if bothGood a b c d = true then fits (lowNum (a * c) (b * d), lowDen (a * c) (b * d)) else (0, 0, false)
def divF (a b c d : Int) : Int × Int × Bool := if bothGood a b c d = true ∧ c ≠ 0 then fits (lowNum (a * d) (b * c), lowDen (a * d) (b * c)) else (0, 0, false)
def lessF (a b c d : Int) : Bool × Bool := if bothGood a b c d = true then (decide (a * d < c * b), true) else (false, false)
def floorF (a b : Int) : Int × Bool := if goodFrac a b = true then (a / b, true) else (0, false)

theorem impl_areFracs_ev (l : List S61) (hl : l.length ≤ 1048576) : Ev (fun k => impl_areFracs.f k l) (l.all fun x => goodFrac x.f0 x.f1) := by
  unfold impl_areFracs.f sl1_ContainsFunc.f sl4_IndexFunc.f
  have hc : ∀ x : S61, Ev (fun k => impl_areFracs_1.f k x.f0 x.f1) (!goodFrac x.f0 x.f1) := fun x => by
    unfold impl_areFracs_1.f; exact Ev.bind (impl_GoodFrac_ev _ _) (Ev.now _)
  have hr : ∀ (i : Nat) (h : i < l.length), rd_T61 l (i : Int) = l[i] := fun i h => by simp [rd_T61, h]
  have key : ∃ j : Int, decide (j ≥ 0) = !(l.all fun x => goodFrac x.f0 x.f1) ∧ Ev (fun k => sl4_IndexFunc.l0 k l (l.length : Int) 0) j := by
    have gen : ∀ (d i : Nat), i + d = l.length → ∃ j : Int, decide (j ≥ 0) = !((l.drop i).all fun x => goodFrac x.f0 x.f1) ∧ Ev (fun k => sl4_IndexFunc.l0 k l (l.length : Int) (i : Int)) j := by
      intro d
      induction d with
      | zero =>
        intro i hi
        refine ⟨-1, by rw [List.drop_of_length_le (by omega)]; decide, Ev.succ ?_⟩
        simp only [sl4_IndexFunc.l0]; exact Ev.neg (by omega) (Ev.now _)
      | succ d ih =>
        intro i hi
        have hi' : i < l.length := by omega
        have hd : (l.drop i).all (fun x => goodFrac x.f0 x.f1) = (goodFrac l[i].f0 l[i].f1 && (l.drop (i + 1)).all fun x => goodFrac x.f0 x.f1) := by
          rw [List.drop_eq_getElem_cons hi', List.all_cons]
        cases hg : goodFrac l[i].f0 l[i].f1 with
        | true =>
          obtain ⟨j, hj, hev⟩ := ih (i + 1) (by omega)
          refine ⟨j, by rw [hd, hg, hj]; simp, Ev.succ ?_⟩
          simp only [sl4_IndexFunc.l0]
          refine Ev.pos (lt_len hi') (Ev.pos (by omega) (Ev.pos (lt_len hi') ?_))
          rw [hr i hi', w64 (by omega) (by omega)]
          refine Ev.bind (hc _) (Ev.neg (by rw [hg]; simp) hev)
        | false =>
          refine ⟨i, by rw [hd, hg]; simp, Ev.succ ?_⟩
          simp only [sl4_IndexFunc.l0]
          refine Ev.pos (lt_len hi') (Ev.pos (by omega) (Ev.pos (lt_len hi') ?_))
          rw [hr i hi']
          refine Ev.bind (hc _) (Ev.pos (by rw [hg]; rfl) (Ev.now _))
    have := gen l.length 0 (by omega)
    simpa using this
  obtain ⟨j, hj, hev⟩ := key
  refine Ev.to (Ev.bind (Ev.bind hev (Ev.now _)) (Ev.now _)) ?_
  rw [hj]; simp
theorem impl_two_ev (a b c d : Int) : Ev (fun k => impl_areFracs.f k [(⟨a, b⟩ : S61), (⟨c, d⟩ : S61)]) (bothGood a b c d) :=
  Ev.to (impl_areFracs_ev _ (by simp)) (by simp [bothGood])

theorem spec_l1Both_ev (a b c d : Int) : Ev (fun k => spec_l1Both.f k a b c d) (bothGood a b c d) := by
  unfold spec_l1Both.f bothGood
  refine Ev.bind (spec_GoodFrac_ev a b) (Ev.ite (fun h => ?_) (fun h => ?_))
  · rw [h]; refine Ev.bind (spec_GoodFrac_ev c d) ?_; simpa using Ev.now _
  · rw [Bool.eq_false_iff.mpr h]; exact Ev.now _

theorem spec_l1Fits_ev (a b : Int) : Ev (fun k => spec_l1Fits.f k a b) (fits (a, b)) := by
  unfold spec_l1Fits.f fits
  refine Ev.bind (spec_GoodFrac_ev a b) (Ev.ite (fun h => ?_) (fun h => ?_))
  · rw [if_pos h]; exact Ev.now _
  · rw [if_neg h]; exact Ev.now _

theorem impl_lowest_fits (a b : Int) (ha : -9223372036854775808 < a ∧ a < 9223372036854775808) (hb : -9223372036854775808 < b ∧ b < 9223372036854775808) (h0 : b ≠ 0) :
    Ev (fun k => impl_lowest.f k a b) (fits (lowNum a b, lowDen a b)) := impl_lowest_ev a b ha hb h0

theorem impl_AddFrac_ev (a b c d : Int) : Ev (fun k => impl_AddFrac.f k a b c d) (addF a b c d) := by
  unfold impl_AddFrac.f addF
  refine Ev.bind (impl_two_ev a b c d) (Ev.ite (fun h => ?_) (fun h => ?_))
  · rw [if_pos h]
    obtain ⟨h1, h2⟩ := (bothGood_iff _ _ _ _).mp h
    obtain ⟨n1, d1, _⟩ := (goodFrac_iff _ _).mp h1
    obtain ⟨n2, d2, _⟩ := (goodFrac_iff _ _).mp h2
    have p1 := prod_e18 (a := a) (b := d) n1 (by omega)
    have p2 := prod_e18 (a := c) (b := b) n2 (by omega)
    have p3 := prod_pos d1 d2
    rw [w64 (x := a * d) (by omega) (by omega), w64 (x := c * b) (by omega) (by omega), w64 (x := b * d) (by omega) (by omega), w64 (by omega) (by omega)]
    exact Ev.bind (impl_lowest_fits _ _ (by omega) (by omega) (by omega)) (Ev.now _)
  · rw [if_neg h]; exact Ev.now _

theorem spec_l1Add_ev (a b c d : Int) (n1 : -1000000000 ≤ a ∧ a ≤ 1000000000) (d1 : 1 ≤ b ∧ b ≤ 1000000000) (n2 : -1000000000 ≤ c ∧ c ≤ 1000000000) (d2 : 1 ≤ d ∧ d ≤ 1000000000) :
    Ev (fun k => spec_l1Add.f k a b c d) (lowNum (a * d + c * b) (b * d), lowDen (a * d + c * b) (b * d)) := by
  unfold spec_l1Add.f
  have p1 := prod_e18 (a := a) (b := d) n1 (by omega)
  have p2 := prod_e18 (a := c) (b := b) n2 (by omega)
  have p3 := prod_pos d1 d2
  rw [w64 (x := a * d) (by omega) (by omega), w64 (x := c * b) (by omega) (by omega), w64 (x := b * d) (by omega) (by omega), w64 (by omega) (by omega)]
  exact Ev.bind (spec_l1Make_ev _ _ (by omega) (by omega) (by omega)) (Ev.now _)

theorem spec_AddFrac_ev (a b c d : Int) : Ev (fun k => spec_AddFrac.f k a b c d) (addF a b c d) := by
  unfold spec_AddFrac.f addF
  refine Ev.bind (spec_l1Both_ev a b c d) (Ev.ite (fun h => ?_) (fun h => ?_))
  · rw [if_pos h]
    obtain ⟨h1, h2⟩ := (bothGood_iff _ _ _ _).mp h
    obtain ⟨n1, d1, _⟩ := (goodFrac_iff _ _).mp h1
    obtain ⟨n2, d2, _⟩ := (goodFrac_iff _ _).mp h2
    exact Ev.bind (spec_l1Add_ev a b c d n1 d1 n2 d2) (Ev.bind (spec_l1Fits_ev _ _) (Ev.now _))
  · rw [if_neg h]; exact Ev.now _

def sumF : List (Int × Int) → Int × Int → Int × Int × Bool
  | [], s => (s.1, s.2, true)
  | x :: l, s => if (addF s.1 s.2 x.1 x.2).2.2 = true then sumF l ((addF s.1 s.2 x.1 x.2).1, (addF s.1 s.2 x.1 x.2).2.1) else (0, 0, false)

theorem impl_sumFracs_ev (l : List S61) (hl : l.length ≤ 1048576) : Ev (fun k => impl_sumFracs.f k l) (sumF (l.map fun x => (x.f0, x.f1)) (0, 1)) := by
  unfold impl_sumFracs.f
  have hr : ∀ (i : Nat) (h : i < l.length), rd_T61 l (i : Int) = l[i] := fun i h => by simp [rd_T61, h]
  have gen : ∀ (d i : Nat) (p q : Int), i + d = l.length → Ev (fun k => impl_sumFracs.l0 k l (l.length : Int) (i : Int) p q) (sumF ((l.drop i).map fun x => (x.f0, x.f1)) (p, q)) := by
    intro d
    induction d with
    | zero =>
      intro i p q hi
      refine Ev.succ ?_
      simp only [impl_sumFracs.l0]; rw [List.drop_of_length_le (by omega)]; exact Ev.neg (by omega) (Ev.now _)
    | succ d ih =>
      intro i p q hi
      have hi' : i < l.length := by omega
      refine Ev.succ ?_
      simp only [impl_sumFracs.l0]
      refine Ev.pos (lt_len hi') (Ev.pos (by omega) (Ev.pos (lt_len hi') ?_))
      rw [hr i hi', w64 (by omega) (by omega), List.drop_eq_getElem_cons hi', List.map_cons, sumF]
      refine Ev.bind (impl_AddFrac_ev _ _ _ _) (Ev.ite (fun h => ?_) (fun h => ?_))
      · rw [if_pos h]; exact ih (i + 1) _ _ (by omega)
      · rw [if_neg h]; exact Ev.now _
  have := gen l.length 0 0 1 (by omega)
  simpa using this

def sumsF (l : List (Int × Int)) : Int × Int × Bool := if l.length ≤ 50 then sumF l (0, 1) else (0, 0, false)

theorem w64n {i n : Nat} (h : i < n) (hn : n ≤ 4611686018427387904) : wrap64 ((i : Int) + 1) = ((i + 1 : Nat) : Int) := by rw [w64 (by omega) (by omega)]; rfl
theorem ev_indexFunc {α : Type} (l : List α) (rdx : Int → α) (hr : ∀ (i : Nat) (h : i < l.length), rdx (i : Int) = l[i]) (c : Nat → α → Option Bool) (p : α → Bool)
    (hc : ∀ x ∈ l, Ev (fun k => c k x) (p x)) (g : Nat → Int → Option Int)
    (hg : ∀ k i, g (k + 1) i = if i < (l.length : Int) then (if 0 ≤ i then (if i < (l.length : Int) then ((c k (rdx i)).bind fun t => if t = true then some i else g k (wrap64 (i + 1))) else none) else none) else some (-1))
    (hl : l.length ≤ 4611686018427387904) : ∃ j : Int, decide (j ≥ 0) = l.any p ∧ Ev (fun k => g k 0) j := by
  have gen : ∀ (d i : Nat), i + d = l.length → ∃ j : Int, decide (j ≥ 0) = (l.drop i).any p ∧ Ev (fun k => g k (i : Int)) j := by
    intro d
    induction d with
    | zero =>
      intro i hi
      refine ⟨-1, by rw [List.drop_of_length_le (by omega)]; rfl, Ev.step0 (Ev.of_eq fun _ => rfl) fun k => ?_⟩
      rw [hg, if_neg (by omega)]
    | succ d ih =>
      intro i hi
      have hi' : i < l.length := by omega
      have hd : (l.drop i).any p = (p l[i] || (l.drop (i + 1)).any p) := by rw [List.drop_eq_getElem_cons hi', List.any_cons]
      have hcx := hc l[i] (List.getElem_mem hi')
      cases hp : p l[i] with
      | true =>
        refine ⟨i, by rw [hd, hp]; simp, Ev.step (fun k => hg k _) (Ev.pos (by omega) (Ev.pos (by omega) (Ev.pos (by omega) ?_)))⟩
        rw [hr i hi']
        exact Ev.bind hcx (Ev.pos hp (Ev.now _))
      | false =>
        obtain ⟨j, hj, hev⟩ := ih (i + 1) (by omega)
        refine ⟨j, by rw [hd, hp, hj]; rfl, Ev.step (fun k => hg k _) (Ev.pos (by omega) (Ev.pos (by omega) (Ev.pos (by omega) ?_)))⟩
        rw [hr i hi', w64 (by omega) (by omega)]
        exact Ev.bind hcx (Ev.neg (by rw [hp]; simp) hev)
  have := gen l.length 0 (by omega)
  simpa using this
theorem any_not_all {α : Type} (l : List α) (p : α → Bool) : l.any (fun x => !p x) = !(l.all p) := by
  induction l with
  | nil => rfl
  | cons a l ih => simp [ih]
def wayOf (a b c d : Int) : Int := if a = c then ((b - d).natAbs : Int) else 3 * ((a - c).natAbs : Int) + (if 40 - (b + d) < b + d then 40 - (b + d) else b + d)
def spotOk (a b : Int) : Bool := (decide (0 ≤ a) && decide (a ≤ 9)) && (decide (0 ≤ b) && decide (b ≤ 20))

theorem low_eq {a b c d : Int} (hb : 0 < b) (hd : 0 < d) (h : a * d = c * b) : lowNum a b = lowNum c d ∧ lowDen a b = lowDen c d := by
  have x1 := low_cross a b hb
  have x2 := low_cross c d hd
  have p1 := (low_den_pos a b hb).1
  have p2 := (low_den_pos c d hd).1
  have g1 := low_gcd a b hb
  have g2 := low_gcd c d hd
  have hx : lowNum a b * lowDen c d = lowNum c d * lowDen a b := by
    have e : (lowNum a b * lowDen c d) * (b * d) = (lowNum c d * lowDen a b) * (b * d) := by
      calc (lowNum a b * lowDen c d) * (b * d) = (lowNum a b * b) * (d * lowDen c d) := by rw [Int.mul_assoc, Int.mul_assoc]; congr 1; rw [Int.mul_left_comm, Int.mul_comm (lowDen c d) d]
        _ = (a * lowDen a b) * (d * lowDen c d) := by rw [x1]
        _ = (a * d) * (lowDen a b * lowDen c d) := by rw [Int.mul_assoc, Int.mul_assoc]; congr 1; rw [Int.mul_left_comm]
        _ = (c * b) * (lowDen a b * lowDen c d) := by rw [h]
        _ = (c * lowDen c d) * (lowDen a b * b) := by rw [Int.mul_assoc, Int.mul_assoc]; congr 1; rw [Int.mul_comm (lowDen a b), Int.mul_left_comm, Int.mul_comm b]
        _ = (lowNum c d * d) * (lowDen a b * b) := by rw [x2]
        _ = (lowNum c d * lowDen a b) * (b * d) := by rw [Int.mul_assoc, Int.mul_assoc]; congr 1; rw [Int.mul_left_comm, Int.mul_comm d b]
    exact Int.eq_of_mul_eq_mul_right (Int.ne_of_gt (Int.mul_pos hb hd)) e
  generalize lowNum a b = p at *
  generalize lowDen a b = q at *
  generalize lowNum c d = p2' at *
  generalize lowDen c d = q2' at *
  have hn : p.natAbs * q2'.natAbs = p2'.natAbs * q.natAbs := by rw [← Int.natAbs_mul, ← Int.natAbs_mul, hx]
  have c1 : Nat.Coprime q.natAbs p.natAbs := by rw [Nat.coprime_comm]; exact g1
  have c2 : Nat.Coprime q2'.natAbs p2'.natAbs := by rw [Nat.coprime_comm]; exact g2
  have v1 : q.natAbs ∣ q2'.natAbs := c1.dvd_of_dvd_mul_left (by rw [hn]; exact Nat.dvd_mul_left _ _)
  have v2 : q2'.natAbs ∣ q.natAbs := c2.dvd_of_dvd_mul_left (by rw [← hn]; exact Nat.dvd_mul_left _ _)
  have hbd : q = q2' := by have := Nat.dvd_antisymm v1 v2; omega
  subst hbd
  exact ⟨Int.eq_of_mul_eq_mul_right (by omega) hx, rfl⟩

def isqUp (n : Int) : Nat → Int
  | 0 => 0
  | k + 1 => if ((k : Int) + 1) * ((k : Int) + 1) ≤ n then (k : Int) + 1 else isqUp n k
def isq (n : Int) : Int := isqUp n n.toNat
theorem sq_le_sq {a b : Int} (h0 : 0 ≤ a) (h : a ≤ b) : a * a ≤ b * b := Int.mul_le_mul h h h0 (by omega)
theorem lt_of_sq {a b : Int} (hb : 0 ≤ b) (h : a * a < b * b) : a < b := by
  rcases Int.lt_or_le a b with h1 | h1
  · exact h1
  · have := sq_le_sq hb h1; omega
theorem sq_lt_sq {a b : Int} (h0 : 0 ≤ a) (h : a < b) : a * a < b * b := by
  have h1 : a * a ≤ a * b := Int.mul_le_mul_of_nonneg_left (by omega) h0
  have h2 : a * b < b * b := Int.mul_lt_mul_of_pos_right h (by omega)
  omega
theorem le_of_sq {a b : Int} (hb : 0 ≤ b) (h : a * a ≤ b * b) : a ≤ b := by
  rcases Int.lt_or_le b a with h1 | h1
  · have := sq_lt_sq hb h1; omega
  · exact h1
theorem isq_spec {n : Int} (hn : 0 ≤ n) : 0 ≤ isq n ∧ isq n * isq n ≤ n ∧ n < (isq n + 1) * (isq n + 1) := by
  have gen : ∀ k : Nat, n < ((k : Int) + 1) * ((k : Int) + 1) → 0 ≤ isqUp n k ∧ isqUp n k * isqUp n k ≤ n ∧ n < (isqUp n k + 1) * (isqUp n k + 1) := by
    intro k
    induction k with
    | zero => intro h; unfold isqUp; exact ⟨by omega, by omega, by simpa using h⟩
    | succ k ih =>
      intro h
      unfold isqUp
      split
      · rename_i hk; exact ⟨by omega, hk, by simpa using h⟩
      · rename_i hk; exact ih (by omega)
  refine gen n.toNat ?_
  have h1 : ((n.toNat : Nat) : Int) = n := by omega
  rw [h1]
  have := Int.mul_le_mul (show (1 : Int) ≤ n + 1 by omega) (Int.le_refl (n + 1)) (show 0 ≤ n + 1 by omega) (show 0 ≤ n + 1 by omega)
  omega
theorem le_isq {n m : Int} (hn : 0 ≤ n) (hm : 0 ≤ m) : m * m ≤ n ↔ m ≤ isq n := by
  obtain ⟨h0, h1, h2⟩ := isq_spec hn
  constructor
  · intro h
    have : m < isq n + 1 := lt_of_sq (by omega) (by omega)
    omega
  · intro h
    have := sq_le_sq hm h; omega
theorem isq_le {n m : Int} (hn : 0 ≤ n) (hm : 0 ≤ m) (h : n < (m + 1) * (m + 1)) : isq n ≤ m := by
  obtain ⟨h0, h1, h2⟩ := isq_spec hn
  have : isq n < m + 1 := lt_of_sq (by omega) (by omega)
  omega
theorem isq_million {n : Int} (hn : 0 ≤ n ∧ n ≤ 1000000000000) : isq n ≤ 1000000 := isq_le hn.1 (by omega) (by omega)

theorem impl_root_ev {n : Int} (hn : 0 ≤ n ∧ n ≤ 1000000000000) : Ev (fun k => impl_root.f k n) (isq n) := by
  unfold impl_root.f
  have key : ∀ (d : Nat) (lo hi : Int), (hi - lo).toNat ≤ d → 0 ≤ lo ∧ lo ≤ isq n ∧ isq n ≤ hi ∧ hi ≤ 1000000 → Ev (fun k => impl_root.l0 k n lo hi) (isq n) := by
    intro d
    induction d with
    | zero =>
      intro lo hi hd h
      refine Ev.succ ?_
      simp only [impl_root.l0]
      refine Ev.neg (by omega) ?_
      rw [show lo = isq n by omega]; exact Ev.now _
    | succ d ih =>
      intro lo hi hd h
      refine Ev.succ ?_
      simp only [impl_root.l0]
      refine Ev.ite (fun hlt => ?_) (fun hlt => by rw [show lo = isq n by omega]; exact Ev.now _)
      rw [w64 (x := lo + hi) (by omega) (by omega), w64 (x := lo + hi + 1) (by omega) (by omega), Int.tdiv_eq_ediv_of_nonneg (by omega), w64 (x := (lo + hi + 1) / 2) (by omega) (by omega)]
      have hm := mul_small (a := (lo + hi + 1) / 2) (b := (lo + hi + 1) / 2) (m := 1000000) (n := 1000000) (by omega) (by omega)
      rw [w64 (x := (lo + hi + 1) / 2 * _) (by omega) (by omega), w64 (x := (lo + hi + 1) / 2 - 1) (by omega) (by omega)]
      have hle := le_isq hn.1 (show 0 ≤ (lo + hi + 1) / 2 by omega)
      refine Ev.ite (fun hc => ih _ _ (by omega) ?_) (fun hc => ih _ _ (by omega) ?_)
      · have := hle.mp hc; omega
      · have : ¬ (lo + hi + 1) / 2 ≤ isq n := fun h2 => hc (hle.mpr h2)
        omega
  exact key 1000000 0 1000000 (by omega) ⟨by omega, (isq_spec hn.1).1, isq_million hn, by omega⟩

theorem spec_l2Root_ev {n : Int} (hn : 0 ≤ n ∧ n ≤ 1000000000000) : Ev (fun k => spec_l2Root.f k n) (isq n) := by
  unfold spec_l2Root.f
  have key : ∀ (d : Nat) (lo hi : Int), (hi - lo).toNat ≤ d → 0 ≤ lo ∧ lo ≤ isq n ∧ isq n < hi ∧ hi ≤ 1000001 → Ev (fun k => spec_l2Root.l0 k n lo hi) (isq n) := by
    intro d
    induction d with
    | zero => intro lo hi hd h; omega
    | succ d ih =>
      intro lo hi hd h
      refine Ev.succ ?_
      simp only [spec_l2Root.l0]
      rw [w64 (x := hi - lo) (by omega) (by omega)]
      refine Ev.ite (fun hlt => ?_) (fun hlt => by rw [show lo = isq n by omega]; exact Ev.now _)
      rw [w64 (x := lo + hi) (by omega) (by omega), Int.tdiv_eq_ediv_of_nonneg (by omega), w64 (x := (lo + hi) / 2) (by omega) (by omega)]
      have hm := mul_small (a := (lo + hi) / 2) (b := (lo + hi) / 2) (m := 1000001) (n := 1000001) (by omega) (by omega)
      rw [w64 (x := (lo + hi) / 2 * _) (by omega) (by omega)]
      have hle := le_isq hn.1 (show 0 ≤ (lo + hi) / 2 by omega)
      refine Ev.ite (fun hc => ih _ _ (by omega) ?_) (fun hc => ih _ _ (by omega) ?_)
      · have := hle.mp hc; omega
      · have : ¬ (lo + hi) / 2 ≤ isq n := fun h2 => hc (hle.mpr h2)
        omega
  have := isq_million hn
  exact key 1000001 0 1000001 (by omega) ⟨by omega, (isq_spec hn.1).1, by omega, by omega⟩

def goodB (a b c d : Int) : Bool := bothGood a b c d && (decide (0 ≤ a) && !decide (c * b < a * d))

theorem impl_GoodBounds_ev (a b c d : Int) : Ev (fun k => impl_GoodBounds.f k a b c d) (goodB a b c d) := by
  unfold impl_GoodBounds.f goodB
  refine Ev.bind (impl_two_ev a b c d) (Ev.ite (fun h => ?_) (fun h => by rw [Bool.eq_false_iff.mpr h]; exact Ev.now _))
  rw [h]
  obtain ⟨h1, h2⟩ := (bothGood_iff _ _ _ _).mp h
  obtain ⟨n1, d1, _⟩ := (goodFrac_iff _ _).mp h1
  obtain ⟨n2, d2, _⟩ := (goodFrac_iff _ _).mp h2
  have p1 := prod_e18 (a := a) (b := d) n1 (by omega)
  have p2 := prod_e18 (a := c) (b := b) n2 (by omega)
  refine Ev.ite (fun h3 => ?_) (fun h3 => by rw [decide_eq_false (by omega)]; exact Ev.now _)
  refine Ev.bind0 (impl_compareFracs_eq a b c d (by omega) (by omega)) (Ev.to (Ev.now _) ?_)
  rw [decide_eq_true (show 0 ≤ a from h3)]
  by_cases h4 : a * d < c * b
  · rw [if_pos h4, decide_eq_false (show ¬ c * b < a * d by omega)]; rfl
  · rw [if_neg h4]
    by_cases h5 : c * b < a * d
    · rw [if_pos h5, decide_eq_true h5]; rfl
    · rw [if_neg h5, decide_eq_false h5]; rfl

theorem spec_l1Less_eq {a b c d : Int} (h : bothGood a b c d = true) : spec_l1Less.f a b c d = some (decide (a * d < c * b)) := by
  obtain ⟨h1, h2⟩ := (bothGood_iff _ _ _ _).mp h
  obtain ⟨n1, d1, _⟩ := (goodFrac_iff _ _).mp h1
  obtain ⟨n2, d2, _⟩ := (goodFrac_iff _ _).mp h2
  have p1 := prod_e18 (a := a) (b := d) n1 (by omega)
  have p2 := prod_e18 (a := c) (b := b) n2 (by omega)
  unfold spec_l1Less.f; rw [w64 (x := a * d) (by omega) (by omega), w64 (x := c * b) (by omega) (by omega)]
theorem spec_GoodBounds_ev (a b c d : Int) : Ev (fun k => spec_GoodBounds.f k a b c d) (goodB a b c d) := by
  unfold spec_GoodBounds.f goodB
  refine Ev.bind (spec_l1Both_ev a b c d) (Ev.ite (fun h => ?_) (fun h => by rw [Bool.eq_false_iff.mpr h]; exact Ev.now _))
  rw [h]
  refine Ev.ite (fun h3 => ?_) (fun h3 => by rw [decide_eq_false (by omega)]; exact Ev.now _)
  have h' : bothGood c d a b = true := by rw [bothGood_iff] at h ⊢; exact ⟨h.2, h.1⟩
  refine Ev.bind0 (spec_l1Less_eq h') (Ev.to (Ev.now _) ?_)
  rw [decide_eq_true (show 0 ≤ a from h3)]; rfl

def withinB (x y a b c d : Int) : Bool × Bool := if goodFrac x y = true ∧ goodB a b c d = true then (!decide (x * b < a * y) && !decide (c * y < x * d), true) else (false, false)
theorem goodB_iff (a b c d : Int) : goodB a b c d = true ↔ bothGood a b c d = true ∧ 0 ≤ a ∧ ¬ c * b < a * d := by simp [goodB]

theorem impl_IsWithin_ev (x y a b c d : Int) : Ev (fun k => impl_IsWithin.f k x y a b c d) (withinB x y a b c d) := by
  unfold impl_IsWithin.f withinB
  refine Ev.bind (impl_GoodFrac_ev x y) (Ev.ite (fun h => Ev.bind (impl_GoodBounds_ev a b c d) (Ev.succ ?_)) (fun h => Ev.succ ?_))
  · simp only [impl_IsWithin.j0]
    refine Ev.ite (fun h2 => ?_) (fun h2 => ?_)
    · rw [if_neg (fun h3 => by simp [h3.2] at h2)]; exact Ev.now _
    · have h2' : goodB a b c d = true := by simpa using h2
      rw [if_pos ⟨h, h2'⟩]
      obtain ⟨hb, _, _⟩ := (goodB_iff _ _ _ _).mp h2'
      obtain ⟨h3, h4⟩ := (bothGood_iff _ _ _ _).mp hb
      obtain ⟨n0, d0, _⟩ := (goodFrac_iff _ _).mp h
      obtain ⟨n1, d1, _⟩ := (goodFrac_iff _ _).mp h3
      obtain ⟨n2, d2, _⟩ := (goodFrac_iff _ _).mp h4
      have p1 := prod_e18 (a := a) (b := y) n1 (by omega)
      have p2 := prod_e18 (a := x) (b := b) n0 (by omega)
      have p3 := prod_e18 (a := c) (b := y) n2 (by omega)
      have p4 := prod_e18 (a := x) (b := d) n0 (by omega)
      refine Ev.bind0 (impl_compareFracs_eq a b x y (by omega) (by omega)) ?_
      by_cases c1 : x * b < a * y
      · rw [decide_eq_true c1]; exact Ev.neg (by rw [if_neg (by omega), if_pos c1]; decide) (Ev.now _)
      · rw [decide_eq_false c1]
        refine Ev.pos (by split <;> omega) (Ev.bind0 (impl_compareFracs_eq x y c d (by omega) (by omega)) (Ev.to (Ev.now _) ?_))
        by_cases c2 : c * y < x * d
        · rw [if_neg (by omega), if_pos c2, decide_eq_true c2]; rfl
        · rw [decide_eq_false c2]; split <;> rfl
  · simp only [impl_IsWithin.j0]; refine Ev.pos trivial ?_; rw [if_neg (fun h3 => h h3.1)]; exact Ev.now _

theorem spec_IsWithin_ev (x y a b c d : Int) : Ev (fun k => spec_IsWithin.f k x y a b c d) (withinB x y a b c d) := by
  unfold spec_IsWithin.f withinB
  refine Ev.bind (spec_GoodFrac_ev x y) (Ev.ite (fun h => Ev.bind (spec_GoodBounds_ev a b c d) (Ev.succ ?_)) (fun h => Ev.succ ?_))
  · simp only [spec_IsWithin.j0]
    refine Ev.ite (fun h2 => ?_) (fun h2 => ?_)
    · rw [if_neg (fun h3 => by simp [h3.2] at h2)]; exact Ev.now _
    · have h2' : goodB a b c d = true := by simpa using h2
      rw [if_pos ⟨h, h2'⟩]
      obtain ⟨hb, _, _⟩ := (goodB_iff _ _ _ _).mp h2'
      obtain ⟨h3, h4⟩ := (bothGood_iff _ _ _ _).mp hb
      refine Ev.bind0 (spec_l1Less_eq ((bothGood_iff _ _ _ _).mpr ⟨h, h3⟩)) ?_
      by_cases c1 : x * b < a * y
      · rw [decide_eq_true c1]; exact Ev.pos rfl (Ev.now _)
      · rw [decide_eq_false c1]; exact Ev.neg (by simp) (Ev.bind0 (spec_l1Less_eq ((bothGood_iff _ _ _ _).mpr ⟨h4, h⟩)) (Ev.now _))
  · simp only [spec_IsWithin.j0]; refine Ev.pos trivial ?_; rw [if_neg (fun h3 => h h3.1)]; exact Ev.now _

def rootB (n p : Int) : Int × Int × Int × Int × Bool :=
  if (0 ≤ n ∧ n ≤ 1000000000000) ∧ (1 ≤ p ∧ p ≤ 1000) ∧ n ≤ 1000000000000 / (p * p) then
    (lowNum (isq (n * p * p)) p, lowDen (isq (n * p * p)) p, lowNum (if isq (n * p * p) * isq (n * p * p) = n * p * p then isq (n * p * p) else isq (n * p * p) + 1) p, lowDen (if isq (n * p * p) * isq (n * p * p) = n * p * p then isq (n * p * p) else isq (n * p * p) + 1) p, true)
  else (0, 0, 0, 0, false)
theorem root_prod {n p : Int} (hn : 0 ≤ n) (hp : 1 ≤ p ∧ p ≤ 1000) (h : n ≤ 1000000000000 / (p * p)) : 0 ≤ n * p * p ∧ n * p * p ≤ 1000000000000 ∧ 1 ≤ p * p ∧ p * p ≤ 1000000 := by
  have h1 := mul_small (a := p) (b := p) (m := 1000) (n := 1000) (by omega) (by omega)
  have h2 : 0 < p * p := Int.mul_pos (by omega) (by omega)
  have h3 : n * p * p = n * (p * p) := Int.mul_assoc _ _ _
  have h4 : n * (p * p) ≤ 1000000000000 / (p * p) * (p * p) := Int.mul_le_mul_of_nonneg_right h (by omega)
  have h5 : 1000000000000 / (p * p) * (p * p) ≤ 1000000000000 := Int.ediv_mul_le _ (by omega)
  have h6 : 0 ≤ n * (p * p) := Int.mul_nonneg hn (by omega)
  rw [h3]; omega

theorem impl_isSquared_eq (n : Int) : impl_isSquared.f n = some (decide (0 ≤ n) && decide (n ≤ 1000000000000)) := by unfold impl_isSquared.f; rw [impl_within_eq]; rfl
theorem impl_RootBounds_ev (n p : Int) : Ev (fun k => impl_RootBounds.f k n p) (rootB n p) := by
  unfold impl_RootBounds.f rootB
  have no : ∀ x : Bool, x = true → Ev (fun k => impl_RootBounds.j0 k n p x) (0, 0, 0, 0, false) := fun x hx => by
    refine Ev.succ ?_; simp only [impl_RootBounds.j0]; exact Ev.pos hx (Ev.now _)
  refine Ev.bind0 (impl_isSquared_eq n) (Ev.ite (fun h1 => Ev.bind0 (impl_within_eq _ _ _) (Ev.ite (fun h2 => ?_) (fun h2 => ?_))) (fun h1 => ?_))
  · have h1' : 0 ≤ n ∧ n ≤ 1000000000000 := by simpa using h1
    have h2' : 1 ≤ p ∧ p ≤ 1000 := by simpa using h2
    have hp := mul_small (a := p) (b := p) (m := 1000) (n := 1000) (by omega) (by omega)
    have hp2 : 0 < p * p := Int.mul_pos (by omega) (by omega)
    have hd : 0 ≤ 1000000000000 / (p * p) ∧ 1000000000000 / (p * p) ≤ 1000000000000 := ⟨Int.ediv_nonneg (by omega) (by omega), Int.ediv_le_self _ (by omega)⟩
    rw [w64 (x := p * p) (by omega) (by omega), w64 (x := 1000000000000 / (p * p)) (by omega) (by omega)]
    refine Ev.neg (by omega) ?_
    by_cases h3 : n ≤ 1000000000000 / (p * p)
    · rw [if_pos ⟨h1', h2', h3⟩]
      obtain ⟨b1, b2, b3, b4⟩ := root_prod h1'.1 h2' h3
      have b5 : 0 ≤ n * p ∧ n * p ≤ n * p * p := ⟨Int.mul_nonneg h1'.1 (by omega), by
        have := Int.mul_le_mul_of_nonneg_left (show 1 ≤ p by omega) (Int.mul_nonneg h1'.1 (show 0 ≤ p by omega)); omega⟩
      have r0 := isq_spec b1
      have r1 := isq_million ⟨b1, b2⟩
      refine Ev.succ ?_
      simp only [impl_RootBounds.j0]
      refine Ev.neg (by simp; omega) ?_
      rw [w64 (x := n * p) (by omega) (by omega), w64 (x := n * p * p) (by omega) (by omega)]
      refine Ev.bind (impl_root_ev ⟨b1, b2⟩) ?_
      rw [w64 (x := isq (n * p * p) * _) (by have := mul_small (a := isq (n * p * p)) (b := isq (n * p * p)) (m := 1000000) (n := 1000000) (by omega) (by omega); omega) (by have := mul_small (a := isq (n * p * p)) (b := isq (n * p * p)) (m := 1000000) (n := 1000000) (by omega) (by omega); omega)]
      rw [w64 (x := isq (n * p * p) + 1) (by omega) (by omega)]
      have tail : ∀ s, 0 ≤ s ∧ s ≤ 1000001 → Ev (fun k => impl_RootBounds.j1 k p (isq (n * p * p)) s) (lowNum (isq (n * p * p)) p, lowDen (isq (n * p * p)) p, lowNum s p, lowDen s p, true) := fun s hs => by
        refine Ev.succ ?_
        simp only [impl_RootBounds.j1]
        have g1 : fits (lowNum (isq (n * p * p)) p, lowDen (isq (n * p * p)) p) = (lowNum (isq (n * p * p)) p, lowDen (isq (n * p * p)) p, true) := by
          unfold fits; rw [if_pos (low_good _ _ (by omega) (by omega))]
        have g2 : fits (lowNum s p, lowDen s p) = (lowNum s p, lowDen s p, true) := by
          unfold fits; rw [if_pos (low_good _ _ (by omega) (by omega))]
        refine Ev.bind (Ev.to (impl_lowest_fits _ _ (by omega) (by omega) (by omega)) g1) (Ev.bind (Ev.to (impl_lowest_fits _ _ (by omega) (by omega) (by omega)) g2) (Ev.pos rfl (Ev.pos rfl (Ev.now _))))
      refine Ev.ite (fun h4 => ?_) (fun h4 => ?_)
      · rw [if_pos h4]; exact tail _ (by omega)
      · rw [if_neg h4]; exact tail _ (by omega)
    · rw [if_neg (fun h => h3 h.2.2)]; exact no _ (by simp; omega)
  · rw [if_neg (fun h => h2 (by simpa using h.2.1))]; exact no _ rfl
  · rw [if_neg (fun h => h1 (by simpa using h.1))]; exact no _ rfl

theorem spec_l2Square_eq (n : Int) : spec_l2Square.f n = some (decide (0 ≤ n) && decide (n ≤ 1000000000000)) := by unfold spec_l2Square.f; rw [spec_l1In_eq]; rfl
theorem spec_RootBounds_ev (n p : Int) : Ev (fun k => spec_RootBounds.f k n p) (rootB n p) := by
  unfold spec_RootBounds.f rootB
  have no : ∀ x : Bool, x = true → Ev (fun k => spec_RootBounds.j0 k n p x) (0, 0, 0, 0, false) := fun x hx => by
    refine Ev.succ ?_; simp only [spec_RootBounds.j0]; exact Ev.pos hx (Ev.now _)
  refine Ev.bind0 (spec_l2Square_eq n) (Ev.ite (fun h1 => Ev.bind0 (spec_l1In_eq _ _ _) (Ev.ite (fun h2 => ?_) (fun h2 => ?_))) (fun h1 => ?_))
  · have h1' : 0 ≤ n ∧ n ≤ 1000000000000 := by simpa using h1
    have h2' : 1 ≤ p ∧ p ≤ 1000 := by simpa using h2
    have hp := mul_small (a := p) (b := p) (m := 1000) (n := 1000) (by omega) (by omega)
    have hp2 : 0 < p * p := Int.mul_pos (by omega) (by omega)
    have hd : 0 ≤ 1000000000000 / (p * p) ∧ 1000000000000 / (p * p) ≤ 1000000000000 := ⟨Int.ediv_nonneg (by omega) (by omega), Int.ediv_le_self _ (by omega)⟩
    rw [w64 (x := p * p) (by omega) (by omega), w64 (x := 1000000000000 / (p * p)) (by omega) (by omega)]
    refine Ev.neg (by omega) ?_
    by_cases h3 : n ≤ 1000000000000 / (p * p)
    · rw [if_pos ⟨h1', h2', h3⟩]
      obtain ⟨b1, b2, b3, b4⟩ := root_prod h1'.1 h2' h3
      have b5 : 0 ≤ n * p ∧ n * p ≤ n * p * p := ⟨Int.mul_nonneg h1'.1 (by omega), by
        have := Int.mul_le_mul_of_nonneg_left (show 1 ≤ p by omega) (Int.mul_nonneg h1'.1 (show 0 ≤ p by omega)); omega⟩
      have r0 := isq_spec b1
      have r1 := isq_million ⟨b1, b2⟩
      have r2 := mul_small (a := isq (n * p * p)) (b := isq (n * p * p)) (m := 1000000) (n := 1000000) (by omega) (by omega)
      refine Ev.succ ?_
      simp only [spec_RootBounds.j0]
      refine Ev.neg (by simp; omega) ?_
      rw [w64 (x := n * p) (by omega) (by omega), w64 (x := n * p * p) (by omega) (by omega)]
      refine Ev.bind (spec_l2Root_ev ⟨b1, b2⟩) ?_
      rw [w64 (x := isq (n * p * p) * _) (by omega) (by omega), w64 (x := isq (n * p * p) + 1) (by omega) (by omega)]
      refine Ev.bind (spec_l1Make_ev _ _ (by omega) (by omega) (by omega)) (Ev.bind (spec_l1Make_ev _ _ (by omega) (by omega) (by omega)) (Ev.ite (fun h4 => ?_) (fun h4 => ?_)))
      · rw [if_pos h4]; exact Ev.now _
      · rw [if_neg h4]; exact Ev.now _
    · rw [if_neg (fun h => h3 h.2.2)]; exact no _ (by simp; omega)
  · rw [if_neg (fun h => h2 (by simpa using h.2.1))]; exact no _ rfl
  · rw [if_neg (fun h => h1 (by simpa using h.1))]; exact no _ rfl

def losOf (l : List S69) : List (Int × Int) := l.map fun b => (b.f0.f0, b.f0.f1)
def hisOf (l : List S69) : List (Int × Int) := l.map fun b => (b.f1.f0, b.f1.f1)
def sumB (l : List S69) : Int × Int × Int × Int × Bool :=
  if l.length ≤ 20 ∧ (l.all fun b => goodB b.f0.f0 b.f0.f1 b.f1.f0 b.f1.f1) = true ∧ (sumF (losOf l) (0, 1)).2.2 = true ∧ (sumF (hisOf l) (0, 1)).2.2 = true then
    ((sumF (losOf l) (0, 1)).1, (sumF (losOf l) (0, 1)).2.1, (sumF (hisOf l) (0, 1)).1, (sumF (hisOf l) (0, 1)).2.1, true)
  else (0, 0, 0, 0, false)
theorem rd_bounds (l : List S69) (i : Nat) (h : i < l.length) : rd_T69 l (i : Int) = l[i] := by simp [rd_T69, h]

theorem impl_SumBounds_ev (l : List S69) (hl : l.length ≤ 1048576) : Ev (fun k => impl_SumBounds.f k l) (sumB l) := by
  unfold impl_SumBounds.f sumB
  have no : ∀ x : Bool, x = true → Ev (fun k => impl_SumBounds.j0 k l x) (0, 0, 0, 0, false) := fun x hx => by
    refine Ev.succ ?_; simp only [impl_SumBounds.j0]; exact Ev.pos hx (Ev.now _)
  refine Ev.ite (fun h1 => by rw [if_neg (fun h => by omega)]; exact no _ rfl) (fun h1 => ?_)
  unfold sl0_ContainsFunc.f sl3_IndexFunc.f
  obtain ⟨j, hj, hev⟩ := ev_indexFunc l (rd_T69 l) (rd_bounds l) (fun k x => impl_SumBounds_1.f k x.f0.f0 x.f0.f1 x.f1.f0 x.f1.f1) (fun b => !goodB b.f0.f0 b.f0.f1 b.f1.f0 b.f1.f1)
    (fun x _ => by unfold impl_SumBounds_1.f; exact Ev.bind (impl_GoodBounds_ev _ _ _ _) (Ev.now _))
    (fun k i => sl3_IndexFunc.l0 k l (l.length : Int) i) (fun k i => by simp only [sl3_IndexFunc.l0]) (by omega)
  rw [any_not_all l (fun b => goodB b.f0.f0 b.f0.f1 b.f1.f0 b.f1.f1)] at hj
  refine Ev.bind (Ev.bind hev (Ev.now _)) ?_
  rw [hj]
  by_cases hg : (l.all fun b => goodB b.f0.f0 b.f0.f1 b.f1.f0 b.f1.f1) = true
  · rw [hg]
    refine Ev.succ ?_
    simp only [impl_SumBounds.j0]
    refine Ev.neg (by simp) ?_
    refine ev_up l.length (fun k i => impl_SumBounds.l0 k ((l.take i).map (·.f0)) ((l.take i).map (·.f1)) l (l.length : Int) (i : Int)) _ (fun _ => True) trivial ?_ ?_
    · intro _
      refine Ev.succ ?_
      simp only [impl_SumBounds.l0]
      refine Ev.neg (by omega) ?_
      rw [List.take_length]
      have e1 := impl_sumFracs_ev (l.map (·.f0)) (by simpa using hl)
      have e2 := impl_sumFracs_ev (l.map (·.f1)) (by simpa using hl)
      have q1 : (l.map (·.f0)).map (fun x => (x.f0, x.f1)) = losOf l := by rw [List.map_map]; rfl
      have q2 : (l.map (·.f1)).map (fun x => (x.f0, x.f1)) = hisOf l := by rw [List.map_map]; rfl
      rw [q1] at e1; rw [q2] at e2
      refine Ev.bind e1 (Ev.bind e2 (Ev.ite (fun a1 => Ev.ite (fun a2 => ?_) (fun a2 => ?_)) (fun a1 => ?_)))
      · rw [if_pos ⟨by omega, trivial, a1, a2⟩]; exact Ev.now _
      · rw [if_neg (fun h => a2 h.2.2.2)]; exact Ev.now _
      · rw [if_neg (fun h => a1 h.2.2.1)]; exact Ev.now _
    · intro i hi _ hnx
      have hnx := hnx trivial
      refine Ev.succ ?_
      simp only [impl_SumBounds.l0]
      refine Ev.pos (by omega) (Ev.pos (by omega) (Ev.pos (by omega) (Ev.bind0 rfl (Ev.pos (by simp; omega) (Ev.bind0 rfl (Ev.pos (by simp; omega) ?_))))))
      rw [rd_bounds l i hi, w64n hi (by omega)]
      rw [List.take_succ_eq_append_getElem hi, List.map_append, List.map_append] at hnx
      exact hnx
  · rw [Bool.eq_false_iff.mpr hg, if_neg (fun h => by simp at h)]; exact no _ rfl

theorem spec_SumBounds_ev (l : List S69) (hl : l.length ≤ 1048576) : Ev (fun k => spec_SumBounds.f k l) (sumB l) := by
  unfold spec_SumBounds.f sumB
  refine Ev.ite (fun h1 => by rw [if_neg (fun h => by omega)]; exact Ev.now _) (fun h1 => ?_)
  have gen : ∀ (d i : Nat) (p q r s : Int), i + d = l.length → Ev (fun k => spec_SumBounds.l0 k l (l.length : Int) (i : Int) p q r s)
      (if ((l.drop i).all fun b => goodB b.f0.f0 b.f0.f1 b.f1.f0 b.f1.f1) = true ∧ (sumF (losOf (l.drop i)) (p, q)).2.2 = true ∧ (sumF (hisOf (l.drop i)) (r, s)).2.2 = true then
        ((sumF (losOf (l.drop i)) (p, q)).1, (sumF (losOf (l.drop i)) (p, q)).2.1, (sumF (hisOf (l.drop i)) (r, s)).1, (sumF (hisOf (l.drop i)) (r, s)).2.1, true)
       else (0, 0, 0, 0, false)) := by
    intro d
    induction d with
    | zero =>
      intro i p q r s hi
      refine Ev.succ ?_
      simp only [spec_SumBounds.l0]
      rw [List.drop_of_length_le (by omega)]
      refine Ev.neg (by omega) ?_
      rw [if_pos ⟨rfl, rfl, rfl⟩]; exact Ev.now _
    | succ d ih =>
      intro i p q r s hi
      have hi' : i < l.length := by omega
      have e1 : losOf (l.drop i) = (l[i].f0.f0, l[i].f0.f1) :: losOf (l.drop (i + 1)) := by unfold losOf; rw [List.drop_eq_getElem_cons hi', List.map_cons]
      have e2 : hisOf (l.drop i) = (l[i].f1.f0, l[i].f1.f1) :: hisOf (l.drop (i + 1)) := by unfold hisOf; rw [List.drop_eq_getElem_cons hi', List.map_cons]
      have e3 : ((l.drop i).all fun b => goodB b.f0.f0 b.f0.f1 b.f1.f0 b.f1.f1) = (goodB l[i].f0.f0 l[i].f0.f1 l[i].f1.f0 l[i].f1.f1 && (l.drop (i + 1)).all fun b => goodB b.f0.f0 b.f0.f1 b.f1.f0 b.f1.f1) := by rw [List.drop_eq_getElem_cons hi', List.all_cons]
      rw [e1, e2, e3, sumF, sumF]
      refine Ev.succ ?_
      simp only [spec_SumBounds.l0]
      refine Ev.pos (by omega) (Ev.pos (by omega) (Ev.pos (by omega) ?_))
      rw [rd_bounds l i hi', w64n hi' (by omega)]
      refine Ev.bind (spec_GoodBounds_ev _ _ _ _) (Ev.ite (fun g => ?_) (fun g => ?_))
      · rw [g, Bool.true_and]
        refine Ev.bind (spec_AddFrac_ev _ _ _ _) (Ev.bind (spec_AddFrac_ev _ _ _ _) (Ev.ite (fun a1 => Ev.ite (fun a2 => ?_) (fun a2 => ?_)) (fun a1 => ?_)))
        · rw [if_pos a1, if_pos a2]; exact ih (i + 1) _ _ _ _ (by omega)
        · rw [if_neg a2, if_neg (fun h => by simp at h)]; exact Ev.now _
        · rw [if_neg a1, if_neg (fun h => by simp at h)]; exact Ev.now _
      · rw [Bool.eq_false_iff.mpr g, if_neg (fun h => by simp at h)]; exact Ev.now _
  have := gen l.length 0 0 1 0 1 (by omega)
  rw [List.drop_zero] at this
  refine Ev.to this ?_
  by_cases h2 : (l.all fun b => goodB b.f0.f0 b.f0.f1 b.f1.f0 b.f1.f1) = true ∧ (sumF (losOf l) (0, 1)).2.2 = true ∧ (sumF (hisOf l) (0, 1)).2.2 = true
  · rw [if_pos h2, if_pos ⟨by omega, h2⟩]
  · rw [if_neg h2, if_neg (fun h => h2 h.2)]

theorem low_lt_iff {a b c d : Int} (hb : 0 < b) (hd : 0 < d) : lowNum a b * lowDen c d < lowNum c d * lowDen a b ↔ a * d < c * b := by
  have x1 := low_cross a b hb
  have x2 := low_cross c d hd
  have p1 := (low_den_pos a b hb).1
  have p2 := (low_den_pos c d hd).1
  generalize lowNum a b = p at *
  generalize lowDen a b = q at *
  generalize lowNum c d = r at *
  generalize lowDen c d = s at *
  have hbd : 0 < b * d := Int.mul_pos hb hd
  have hqs : 0 < q * s := Int.mul_pos (by omega) (by omega)
  have e1 : p * s * (b * d) = a * d * (q * s) := by
    calc p * s * (b * d) = (p * b) * (s * d) := by rw [Int.mul_assoc, Int.mul_assoc, Int.mul_left_comm s b d]
      _ = (a * q) * (s * d) := by rw [x1]
      _ = a * d * (q * s) := by rw [Int.mul_assoc, Int.mul_assoc, Int.mul_comm s d, Int.mul_left_comm q d s]
  have e2 : r * q * (b * d) = c * b * (q * s) := by
    calc r * q * (b * d) = (r * d) * (q * b) := by rw [Int.mul_comm b d, Int.mul_assoc, Int.mul_assoc, Int.mul_left_comm q d b]
      _ = (c * s) * (q * b) := by rw [x2]
      _ = c * b * (q * s) := by rw [Int.mul_assoc, Int.mul_assoc, Int.mul_comm q b, Int.mul_left_comm s b q, Int.mul_comm s q]
  constructor
  · intro h
    have h2 : p * s * (b * d) < r * q * (b * d) := Int.mul_lt_mul_of_pos_right h hbd
    rw [e1, e2] at h2
    exact Int.lt_of_mul_lt_mul_right h2 (by omega)
  · intro h
    have h2 : a * d * (q * s) < c * b * (q * s) := Int.mul_lt_mul_of_pos_right h hqs
    rw [← e1, ← e2] at h2
    exact Int.lt_of_mul_lt_mul_right h2 (by omega)
theorem low_nonneg {a b : Int} (hb : 0 < b) (ha : 0 ≤ a) : 0 ≤ lowNum a b := by
  have h := low_cross a b hb
  have hd := (low_den_pos a b hb).1
  rcases Int.lt_or_le (lowNum a b) 0 with h1 | h1
  · have h2 : lowNum a b * b < 0 := Int.mul_neg_of_neg_of_pos h1 hb
    have h3 := Int.mul_nonneg ha (show 0 ≤ lowDen a b by omega)
    omega
  · exact h1
theorem low_zero {p : Int} (hp : 0 < p) : lowNum 0 p = 0 ∧ lowDen 0 p = 1 := by
  have h := low_eq (a := 0) (b := p) (c := 0) (d := 1) hp (by omega) (by omega)
  have h1 : lowNum 0 1 = 0 := by decide
  have h2 : lowDen 0 1 = 1 := by decide
  rw [h1, h2] at h; exact h

theorem add_low {a b p : Int} (hp : 1 ≤ p ∧ p ≤ 1000000000) (ha : -1000000000 ≤ a ∧ a ≤ 1000000000) (hb : -1000000000 ≤ b ∧ b ≤ 1000000000) (hab : -1000000000 ≤ a + b ∧ a + b ≤ 1000000000) :
    addF (lowNum a p) (lowDen a p) (lowNum b p) (lowDen b p) = (lowNum (a + b) p, lowDen (a + b) p, true) := by
  have x1 := low_cross a p (by omega)
  have x2 := low_cross b p (by omega)
  have d1 := (low_den_pos a p (by omega)).1
  have d2 := (low_den_pos b p (by omega)).1
  unfold addF
  rw [if_pos ((bothGood_iff _ _ _ _).mpr ⟨low_good a p ha hp, low_good b p hb hp⟩)]
  have e := low_eq (a := lowNum a p * lowDen b p + lowNum b p * lowDen a p) (b := lowDen a p * lowDen b p) (c := a + b) (d := p) (Int.mul_pos (by omega) (by omega)) (by omega) (by
    rw [Int.add_mul, Int.add_mul]
    congr 1
    · rw [Int.mul_right_comm, x1, Int.mul_assoc]
    · rw [Int.mul_right_comm, x2, Int.mul_assoc, Int.mul_comm (lowDen b p)])
  rw [e.1, e.2]
  unfold fits
  rw [if_pos (low_good _ _ hab hp)]
theorem sumF_low (g : Int → Int) (p m : Int) (hp : 1 ≤ p ∧ p ≤ 1000000000) (hm : 0 ≤ m ∧ m ≤ 100000) : ∀ (l : List Int) (a : Int), (∀ x ∈ l, 0 ≤ g x ∧ g x ≤ m) → 0 ≤ a → a + m * l.length ≤ 1000000000 →
    sumF (l.map fun f => (lowNum (g f) p, lowDen (g f) p)) (lowNum a p, lowDen a p) = (lowNum (a + (l.map g).sum) p, lowDen (a + (l.map g).sum) p, true) := by
  intro l
  induction l with
  | nil => intro a _ _ _; simp [sumF]
  | cons x l ih =>
    intro a hx h0 hb
    have h1 := hx x (by simp)
    have hb' : a + (m * l.length + m) ≤ 1000000000 := by
      have e : m * ((x :: l).length : Int) = m * l.length + m := by rw [List.length_cons]; push_cast; rw [Int.mul_add]; simp
      rw [e] at hb; exact hb
    have hml : 0 ≤ m * (l.length : Int) := Int.mul_nonneg hm.1 (by omega)
    rw [List.map_cons, sumF, add_low hp (by omega) (by omega) (by omega), if_pos rfl]
    dsimp only
    rw [ih (a + g x) (fun y hy => hx y (by simp [hy])) (by omega) (by omega), List.map_cons, List.sum_cons, ← Int.add_assoc]

def csq (n : Int) : Int := if isq n * isq n = n then isq n else isq n + 1
theorem csq_spec {n : Int} (hn : 0 ≤ n) : isq n ≤ csq n ∧ csq n ≤ isq n + 1 ∧ n ≤ csq n * csq n := by
  obtain ⟨h0, h1, h2⟩ := isq_spec hn
  unfold csq
  split
  · omega
  · omega
theorem csq_le {n m : Int} (hn : 0 ≤ n) (hm : 0 ≤ m) (h : n ≤ m * m) : csq n ≤ m := by
  obtain ⟨h0, h1, h2⟩ := isq_spec hn
  unfold csq
  split
  · rename_i he; exact le_of_sq hm (by omega)
  · rename_i he
    have : isq n < m := lt_of_sq hm (by omega)
    omega
theorem flow_prod {f p : Int} (hf : 1 ≤ f ∧ f ≤ 30) (hp : 1 ≤ p ∧ p ≤ 100) : 0 ≤ f * p * p ∧ f * p * p ≤ 300000 := by
  have h1 := mul_small (a := f) (b := p) (m := 30) (n := 100) (by omega) (by omega)
  have h2 := mul_small (a := f * p) (b := p) (m := 3000) (n := 100) (by omega) (by omega)
  omega
theorem flow_isq {f p : Int} (hf : 1 ≤ f ∧ f ≤ 30) (hp : 1 ≤ p ∧ p ≤ 100) : 0 ≤ isq (f * p * p) ∧ isq (f * p * p) ≤ csq (f * p * p) ∧ csq (f * p * p) ≤ 1000 := by
  have h := flow_prod hf hp
  have h1 := isq_spec h.1
  have h2 := csq_spec h.1
  have h3 := csq_le h.1 (m := 1000) (by omega) (by omega)
  omega
def rootsL (flow : List Int) (p : Int) : Int := (flow.map fun f => isq (f * p * p)).sum
def rootsH (flow : List Int) (p : Int) : Int := (flow.map fun f => csq (f * p * p)).sum
def leastB (flow : List Int) (room p : Int) : Int × Int × Int × Int × Bool :=
  if flowOk flow = true ∧ (8 ≤ room ∧ room ≤ 1000) ∧ (1 ≤ p ∧ p ≤ 100) then
    (lowNum (rootsL flow p * rootsL flow p) (p * p * room), lowDen (rootsL flow p * rootsL flow p) (p * p * room), lowNum (rootsH flow p * rootsH flow p) (p * p * room), lowDen (rootsH flow p * rootsH flow p) (p * p * room), true)
  else (0, 0, 0, 0, false)
def bndOf (p f : Int) : S69 := ⟨⟨lowNum (isq (f * p * p)) p, lowDen (isq (f * p * p)) p⟩, ⟨lowNum (csq (f * p * p)) p, lowDen (csq (f * p * p)) p⟩⟩
theorem rootB_flow {f p : Int} (hf : 1 ≤ f ∧ f ≤ 30) (hp : 1 ≤ p ∧ p ≤ 100) : rootB f p = ((bndOf p f).f0.f0, (bndOf p f).f0.f1, (bndOf p f).f1.f0, (bndOf p f).f1.f1, true) := by
  unfold rootB
  have hpp := mul_small (a := p) (b := p) (m := 100) (n := 100) (by omega) (by omega)
  have hpp2 : 0 < p * p := Int.mul_pos (by omega) (by omega)
  have : f ≤ 1000000000000 / (p * p) := by
    rw [Int.le_ediv_iff_mul_le hpp2]
    have := mul_small (a := f) (b := p * p) (m := 30) (n := 10000) (by omega) (by omega)
    omega
  rw [if_pos ⟨by omega, by omega, this⟩]; rfl
theorem mono_sum (l : List Int) (g h : Int → Int) (hx : ∀ x ∈ l, g x ≤ h x) : (l.map g).sum ≤ (l.map h).sum := by
  induction l with
  | nil => simp
  | cons a l ih =>
    have h1 := hx a (by simp)
    have h2 := ih fun x h => hx x (by simp [h])
    simp only [List.map_cons, List.sum_cons]; omega
theorem map_sum_bounds (l : List Int) (g : Int → Int) (lo hi : Int) (hx : ∀ x ∈ l, lo ≤ g x ∧ g x ≤ hi) : lo * l.length ≤ (l.map g).sum ∧ (l.map g).sum ≤ hi * l.length := by
  have := sum_bounds (l.map g) lo hi (fun x h => by obtain ⟨y, hy, rfl⟩ := List.mem_map.mp h; exact hx y hy)
  rwa [List.length_map] at this
theorem roots_bounds {flow : List Int} {p : Int} (hf : flowOk flow = true) (hp : 1 ≤ p ∧ p ≤ 100) : 0 ≤ rootsL flow p ∧ rootsL flow p ≤ rootsH flow p ∧ rootsH flow p ≤ 8000 := by
  obtain ⟨h1, h2⟩ := (flowOk_iff flow).mp hf
  have hb := map_sum_bounds flow (fun f => isq (f * p * p)) 0 1000 (fun x hx => by have := flow_isq (h2 x hx) hp; omega)
  have hc := map_sum_bounds flow (fun f => csq (f * p * p)) 0 1000 (fun x hx => by have := flow_isq (h2 x hx) hp; omega)
  have hm := mono_sum flow (fun f => isq (f * p * p)) (fun f => csq (f * p * p)) (fun x hx => (flow_isq (h2 x hx) hp).2.1)
  unfold rootsL rootsH; omega
theorem good_low {a c p : Int} (hp : 1 ≤ p ∧ p ≤ 1000000000) (ha : 0 ≤ a) (hac : a ≤ c) (hc : c ≤ 1000000000) : goodB (lowNum a p) (lowDen a p) (lowNum c p) (lowDen c p) = true := by
  unfold goodB
  have h1 : bothGood (lowNum a p) (lowDen a p) (lowNum c p) (lowDen c p) = true := (bothGood_iff _ _ _ _).mpr ⟨low_good a p (by omega) hp, low_good c p (by omega) hp⟩
  have h2 : ¬ lowNum c p * lowDen a p < lowNum a p * lowDen c p := fun h => by
    have := (low_lt_iff (a := c) (b := p) (c := a) (d := p) (by omega) (by omega)).mp h
    have := Int.lt_of_mul_lt_mul_right this (by omega)
    omega
  rw [h1, decide_eq_true (low_nonneg (by omega) ha), decide_eq_false h2]; rfl
theorem sumB_flow {flow : List Int} {p : Int} (hf : flowOk flow = true) (hp : 1 ≤ p ∧ p ≤ 100) :
    sumB (flow.map (bndOf p)) = (lowNum (rootsL flow p) p, lowDen (rootsL flow p) p, lowNum (rootsH flow p) p, lowDen (rootsH flow p) p, true) := by
  obtain ⟨h1, h2⟩ := (flowOk_iff flow).mp hf
  have e1 : losOf (flow.map (bndOf p)) = flow.map fun f => (lowNum (isq (f * p * p)) p, lowDen (isq (f * p * p)) p) := by unfold losOf; rw [List.map_map]; rfl
  have e2 : hisOf (flow.map (bndOf p)) = flow.map fun f => (lowNum (csq (f * p * p)) p, lowDen (csq (f * p * p)) p) := by unfold hisOf; rw [List.map_map]; rfl
  have z := low_zero (p := p) (by omega)
  have s1 := sumF_low (fun f => isq (f * p * p)) p 1000 (by omega) (by omega) flow 0 (fun x hx => by have := flow_isq (h2 x hx) hp; omega) (by omega) (by omega)
  have s2 := sumF_low (fun f => csq (f * p * p)) p 1000 (by omega) (by omega) flow 0 (fun x hx => by have := flow_isq (h2 x hx) hp; omega) (by omega) (by omega)
  rw [z.1, z.2, Int.zero_add] at s1 s2
  unfold sumB
  rw [e1, e2, s1, s2]
  have hall : ((flow.map (bndOf p)).all fun b => goodB b.f0.f0 b.f0.f1 b.f1.f0 b.f1.f1) = true := by
    rw [List.all_eq_true]
    intro b hb
    obtain ⟨f, hf2, rfl⟩ := List.mem_map.mp hb
    have := flow_isq (h2 f hf2) hp
    exact good_low (by omega) (by omega) (by omega) (by omega)
  rw [if_pos ⟨by rw [List.length_map]; omega, hall, rfl, rfl⟩]
  rfl
theorem low_sq {a p room : Int} (hp : 0 < p) (hr : 0 < room) : lowNum (lowNum a p * lowNum a p) (lowDen a p * lowDen a p * room) = lowNum (a * a) (p * p * room) ∧ lowDen (lowNum a p * lowNum a p) (lowDen a p * lowDen a p * room) = lowDen (a * a) (p * p * room) := by
  have x := low_cross a p hp
  have d := (low_den_pos a p hp).1
  refine low_eq (Int.mul_pos (Int.mul_pos (by omega) (by omega)) hr) (Int.mul_pos (Int.mul_pos hp hp) hr) ?_
  generalize lowNum a p = n at *
  generalize lowDen a p = q at *
  calc n * n * (p * p * room) = (n * p) * (n * p) * room := by rw [← Int.mul_assoc (n * n)]; congr 1; rw [Int.mul_assoc, Int.mul_assoc]; congr 1; rw [Int.mul_left_comm]
    _ = (a * q) * (a * q) * room := by rw [x]
    _ = a * a * (q * q * room) := by rw [← Int.mul_assoc (a * a)]; congr 1; rw [Int.mul_assoc, Int.mul_assoc]; congr 1; rw [Int.mul_left_comm]
theorem low_small {a p : Int} (hp : 1 ≤ p ∧ p ≤ 100) (ha : 0 ≤ a ∧ a ≤ 8000) {room : Int} (hr : 8 ≤ room ∧ room ≤ 1000) :
    (0 ≤ lowNum a p ∧ lowNum a p ≤ 8000) ∧ (1 ≤ lowDen a p ∧ lowDen a p ≤ 100) ∧ (0 ≤ lowNum a p * lowNum a p ∧ lowNum a p * lowNum a p ≤ 64000000) ∧ (1 ≤ lowDen a p * lowDen a p ∧ lowDen a p * lowDen a p ≤ 10000) ∧ (1 ≤ lowDen a p * lowDen a p * room ∧ lowDen a p * lowDen a p * room ≤ 10000000) := by
  have n1 := low_num_le a p 8000 (by omega) (by omega)
  have n0 := low_nonneg (a := a) (b := p) (by omega) ha.1
  have d1 := low_den_pos a p (by omega)
  have m1 := mul_small (a := lowNum a p) (b := lowNum a p) (m := 8000) (n := 8000) (by omega) (by omega)
  have m2 := mul_small (a := lowDen a p) (b := lowDen a p) (m := 100) (n := 100) (by omega) (by omega)
  have m3 : 0 < lowDen a p * lowDen a p := Int.mul_pos (by omega) (by omega)
  have m4 := mul_small (a := lowDen a p * lowDen a p) (b := room) (m := 10000) (n := 1000) (by omega) (by omega)
  have m5 : 0 < lowDen a p * lowDen a p * room := Int.mul_pos m3 (by omega)
  exact ⟨by omega, by omega, by omega, by omega, by omega⟩

theorem impl_isRoom_ev (flow : List Int) (room : Int) (h : flow.length ≤ 1048576) : Ev (fun k => impl_isRoom.f k flow room) (flowOk flow && (decide (8 ≤ room) && decide (room ≤ 1000))) := by
  unfold impl_isRoom.f
  refine Ev.bind (impl_isFlow_ev flow (by omega)) (Ev.ite (fun h1 => ?_) (fun h1 => ?_))
  · rw [h1]; exact Ev.bind0 (impl_within_eq _ _ _) (Ev.now _)
  · rw [Bool.eq_false_iff.mpr h1]; exact Ev.now _
theorem impl_LeastCost_ev (flow : List Int) (room p : Int) (h : flow.length ≤ 1048576) : Ev (fun k => impl_LeastCost.f k flow room p) (leastB flow room p) := by
  unfold impl_LeastCost.f leastB
  have no : ∀ x : Bool, x = true → Ev (fun k => impl_LeastCost.j0 k flow room p x) (0, 0, 0, 0, false) := fun x hx => by
    refine Ev.succ ?_; simp only [impl_LeastCost.j0]; exact Ev.pos hx (Ev.now _)
  refine Ev.bind (impl_isRoom_ev flow room h) (Ev.ite (fun h1 => Ev.bind0 (impl_within_eq _ _ _) ?_) (fun h1 => ?_))
  · have h1' : flowOk flow = true ∧ 8 ≤ room ∧ room ≤ 1000 := by simpa using h1
    obtain ⟨hf, hr⟩ := h1'
    by_cases hp : 1 ≤ p ∧ p ≤ 100
    · rw [if_pos ⟨hf, hr, hp⟩]
      obtain ⟨f1, f2⟩ := (flowOk_iff flow).mp hf
      refine Ev.succ ?_
      simp only [impl_LeastCost.j0]
      refine Ev.neg (by simp; omega) ?_
      refine ev_up flow.length (fun k i => impl_LeastCost.l0 k room p ((flow.take i).map (bndOf p)) flow (flow.length : Int) (i : Int)) _ (fun _ => True) trivial ?_ ?_
      · intro _
        refine Ev.succ ?_
        simp only [impl_LeastCost.l0]
        refine Ev.neg (by omega) ?_
        rw [List.take_length]
        refine Ev.bind (Ev.to (impl_SumBounds_ev _ (by rw [List.length_map]; omega)) (sumB_flow hf hp)) (Ev.pos rfl ?_)
        dsimp only
        have b := roots_bounds hf hp
        obtain ⟨a1, a2, a3, a4, a5⟩ := low_small hp (show 0 ≤ rootsL flow p ∧ rootsL flow p ≤ 8000 by omega) hr
        obtain ⟨c1, c2, c3, c4, c5⟩ := low_small hp (show 0 ≤ rootsH flow p ∧ rootsH flow p ≤ 8000 by omega) hr
        rw [w64 (x := lowNum (rootsL flow p) p * _) (by omega) (by omega), w64 (x := lowNum (rootsH flow p) p * _) (by omega) (by omega), w64 (x := lowDen (rootsL flow p) p * lowDen (rootsL flow p) p) (by omega) (by omega), w64 (x := lowDen (rootsH flow p) p * lowDen (rootsH flow p) p) (by omega) (by omega),
          w64 (x := lowDen (rootsL flow p) p * lowDen (rootsL flow p) p * room) (by omega) (by omega), w64 (x := lowDen (rootsH flow p) p * lowDen (rootsH flow p) p * room) (by omega) (by omega)]
        have q1 := low_sq (a := rootsL flow p) (p := p) (room := room) (by omega) (by omega)
        have q2 := low_sq (a := rootsH flow p) (p := p) (room := room) (by omega) (by omega)
        have g1 := low_good (lowNum (rootsL flow p) p * lowNum (rootsL flow p) p) (lowDen (rootsL flow p) p * lowDen (rootsL flow p) p * room) (by omega) (by omega)
        have g2 := low_good (lowNum (rootsH flow p) p * lowNum (rootsH flow p) p) (lowDen (rootsH flow p) p * lowDen (rootsH flow p) p * room) (by omega) (by omega)
        refine Ev.bind (impl_lowest_fits _ _ (by omega) (by omega) (by omega)) (Ev.bind (impl_lowest_fits _ _ (by omega) (by omega) (by omega)) ?_)
        unfold fits
        rw [if_pos g1, if_pos g2]
        refine Ev.pos rfl (Ev.pos rfl (Ev.to (Ev.now _) ?_))
        rw [← q1.1, ← q1.2, ← q2.1, ← q2.2]
      · intro i hi _ hnx
        have hnx := hnx trivial
        refine Ev.succ ?_
        simp only [impl_LeastCost.l0]
        refine Ev.pos (by omega) (Ev.pos (by omega) (Ev.pos (by omega) ?_))
        rw [rd_nat flow i hi, w64n hi (by omega)]
        refine Ev.bind (Ev.to (impl_RootBounds_ev _ _) (rootB_flow (f2 _ (List.getElem_mem hi)) hp)) (Ev.pos rfl (Ev.pos (by simp; omega) ?_))
        rw [List.take_succ_eq_append_getElem hi, List.map_append] at hnx
        exact hnx
    · rw [if_neg (fun h => hp h.2.2)]; exact no _ (by simp; omega)
  · rw [if_neg (fun h => h1 (by simp [h.1, h.2.1]))]; exact no _ rfl

theorem spec_l5Room_ev (flow : List Int) (room : Int) (h : flow.length ≤ 1048576) : Ev (fun k => spec_l5Room.f k flow room) (flowOk flow && (decide (8 ≤ room) && decide (room ≤ 1000))) := by
  unfold spec_l5Room.f
  refine Ev.bind (spec_l4Flow_ev flow (by omega)) (Ev.ite (fun h1 => ?_) (fun h1 => ?_))
  · rw [h1]; exact Ev.bind0 (spec_l1In_eq _ _ _) (Ev.now _)
  · rw [Bool.eq_false_iff.mpr h1]; exact Ev.now _
theorem spec_l5Square_ev {a p room : Int} (hp : 1 ≤ p ∧ p ≤ 100) (ha : 0 ≤ a ∧ a ≤ 8000) (hr : 8 ≤ room ∧ room ≤ 1000) : Ev (fun k => spec_l5Square.f k (lowNum a p) (lowDen a p) room) (lowNum (a * a) (p * p * room), lowDen (a * a) (p * p * room)) := by
  unfold spec_l5Square.f
  obtain ⟨a1, a2, a3, a4, a5⟩ := low_small hp ha hr
  rw [w64 (x := lowNum a p * _) (by omega) (by omega), w64 (x := lowDen a p * lowDen a p) (by omega) (by omega), w64 (x := lowDen a p * lowDen a p * room) (by omega) (by omega)]
  have q1 := low_sq (a := a) (p := p) (room := room) (by omega) (by omega)
  refine Ev.bind (spec_l1Make_ev _ _ (by omega) (by omega) (by omega)) (Ev.to (Ev.now _) ?_)
  rw [q1.1, q1.2]
theorem least_good {flow : List Int} {room p : Int} (hf : flowOk flow = true) (hr : 8 ≤ room ∧ room ≤ 1000) (hp : 1 ≤ p ∧ p ≤ 100) :
    goodB (lowNum (rootsL flow p * rootsL flow p) (p * p * room)) (lowDen (rootsL flow p * rootsL flow p) (p * p * room)) (lowNum (rootsH flow p * rootsH flow p) (p * p * room)) (lowDen (rootsH flow p * rootsH flow p) (p * p * room)) = true := by
  have b := roots_bounds hf hp
  have m1 := mul_small (a := rootsH flow p) (b := rootsH flow p) (m := 8000) (n := 8000) (by omega) (by omega)
  have m2 := sq_le_sq b.1 b.2.1
  have m3 : 0 ≤ rootsL flow p * rootsL flow p := Int.mul_nonneg b.1 b.1
  have m4 := mul_small (a := p) (b := p) (m := 100) (n := 100) (by omega) (by omega)
  have m5 := mul_small (a := p * p) (b := room) (m := 10000) (n := 1000) (by omega) (by omega)
  have m6 : 0 < p * p * room := Int.mul_pos (Int.mul_pos (by omega) (by omega)) (by omega)
  exact good_low (by omega) m3 m2 (by omega)
theorem spec_LeastCost_ev (flow : List Int) (room p : Int) (h : flow.length ≤ 1048576) : Ev (fun k => spec_LeastCost.f k flow room p) (leastB flow room p) := by
  unfold spec_LeastCost.f leastB
  have no : ∀ x : Bool, x = true → Ev (fun k => spec_LeastCost.j0 k flow room p x) (0, 0, 0, 0, false) := fun x hx => by
    refine Ev.succ ?_; simp only [spec_LeastCost.j0]; exact Ev.pos hx (Ev.now _)
  refine Ev.bind (spec_l5Room_ev flow room h) (Ev.ite (fun h1 => Ev.bind0 (spec_l1In_eq _ _ _) ?_) (fun h1 => ?_))
  · have h1' : flowOk flow = true ∧ 8 ≤ room ∧ room ≤ 1000 := by simpa using h1
    obtain ⟨hf, hr⟩ := h1'
    by_cases hp : 1 ≤ p ∧ p ≤ 100
    · rw [if_pos ⟨hf, hr, hp⟩]
      obtain ⟨f1, f2⟩ := (flowOk_iff flow).mp hf
      refine Ev.succ ?_
      simp only [spec_LeastCost.j0]
      refine Ev.neg (by simp; omega) ?_
      refine ev_up flow.length (fun k i => spec_LeastCost.l0 k room p ((flow.take i).map (bndOf p)) flow (flow.length : Int) (i : Int)) _ (fun _ => True) trivial ?_ ?_
      · intro _
        refine Ev.succ ?_
        simp only [spec_LeastCost.l0]
        refine Ev.neg (by omega) ?_
        rw [List.take_length]
        refine Ev.bind (Ev.to (spec_SumBounds_ev _ (by rw [List.length_map]; omega)) (sumB_flow hf hp)) (Ev.pos rfl ?_)
        dsimp only
        have b := roots_bounds hf hp
        refine Ev.bind (spec_l5Square_ev hp (by omega) hr) (Ev.bind (spec_l5Square_ev hp (by omega) hr) (Ev.bind (Ev.to (spec_GoodBounds_ev _ _ _ _) (least_good hf hr hp)) (Ev.pos rfl (Ev.now _))))
      · intro i hi _ hnx
        have hnx := hnx trivial
        refine Ev.succ ?_
        simp only [spec_LeastCost.l0]
        refine Ev.pos (by omega) (Ev.pos (by omega) (Ev.pos (by omega) ?_))
        rw [rd_nat flow i hi, w64n hi (by omega)]
        refine Ev.bind (Ev.to (spec_RootBounds_ev _ _) (rootB_flow (f2 _ (List.getElem_mem hi)) hp)) (Ev.pos (by simp; omega) ?_)
        rw [List.take_succ_eq_append_getElem hi, List.map_append] at hnx
        exact hnx
    · rw [if_neg (fun h => hp h.2.2)]; exact no _ (by simp; omega)
  · rw [if_neg (fun h => h1 (by simp [h.1, h.2.1]))]; exact no _ rfl

theorem roots_fine {flow : List Int} {p : Int} (hf : flowOk flow = true) (hp : 1 ≤ p ∧ 2 * p ≤ 100) : 2 * rootsL flow p ≤ rootsL flow (2 * p) ∧ rootsH flow (2 * p) ≤ 2 * rootsH flow p := by
  obtain ⟨h1, h2⟩ := (flowOk_iff flow).mp hf
  have e4 : ∀ f : Int, f * (2 * p) * (2 * p) = 4 * (f * p * p) := fun f => by
    rw [show f * (2 * p) = 2 * (f * p) by rw [Int.mul_left_comm], Int.mul_assoc, Int.mul_left_comm (f * p) 2 p]; omega
  have twice : ∀ g : Int → Int, (flow.map fun x => 2 * g x).sum = 2 * (flow.map g).sum := fun g => by
    induction flow with
    | nil => rfl
    | cons a l ih =>
      have := fun hl => ih hl
      clear this h1 h2 hf ih
      induction (a :: l) with
      | nil => rfl
      | cons b m ihm => simp only [List.map_cons, List.sum_cons]; omega
  constructor
  · unfold rootsL
    rw [← twice]
    refine mono_sum flow _ _ fun x hx => ?_
    have hq := flow_prod (h2 x hx) (show 1 ≤ p ∧ p ≤ 100 by omega)
    have hs := isq_spec hq.1
    rw [e4, ← le_isq (by omega) (by omega)]
    have : 2 * isq (x * p * p) * (2 * isq (x * p * p)) = 4 * (isq (x * p * p) * isq (x * p * p)) := by
      rw [Int.mul_assoc, Int.mul_left_comm (isq (x * p * p)) 2]; omega
    omega
  · unfold rootsH
    rw [← twice]
    refine mono_sum flow _ _ fun x hx => ?_
    have hq := flow_prod (h2 x hx) (show 1 ≤ p ∧ p ≤ 100 by omega)
    have hs := isq_spec hq.1
    have hc := csq_spec hq.1
    rw [e4]
    refine csq_le (by omega) (by omega) ?_
    have : 2 * csq (x * p * p) * (2 * csq (x * p * p)) = 4 * (csq (x * p * p) * csq (x * p * p)) := by
      rw [Int.mul_assoc, Int.mul_left_comm (csq (x * p * p)) 2]; omega
    omega
theorem within_least {flow : List Int} {room p : Int} (hf : flowOk flow = true) (hr : 8 ≤ room ∧ room ≤ 1000) (hp : 1 ≤ p ∧ 2 * p ≤ 100) (x : Int) (hx : rootsL flow (2 * p) * rootsL flow (2 * p) ≤ x ∧ x ≤ rootsH flow (2 * p) * rootsH flow (2 * p)) :
    withinB (lowNum x (2 * p * (2 * p) * room)) (lowDen x (2 * p * (2 * p) * room)) (lowNum (rootsL flow p * rootsL flow p) (p * p * room)) (lowDen (rootsL flow p * rootsL flow p) (p * p * room)) (lowNum (rootsH flow p * rootsH flow p) (p * p * room)) (lowDen (rootsH flow p * rootsH flow p) (p * p * room)) = (true, true) := by
  have b := roots_bounds hf (p := p) (by omega)
  have b2 := roots_bounds hf (p := 2 * p) (by omega)
  obtain ⟨f1, f2⟩ := roots_fine hf hp
  have m1 := mul_small (a := rootsH flow (2 * p)) (b := rootsH flow (2 * p)) (m := 8000) (n := 8000) (by omega) (by omega)
  have m0 : 0 ≤ rootsL flow (2 * p) * rootsL flow (2 * p) := Int.mul_nonneg b2.1 b2.1
  have m4 := mul_small (a := 2 * p) (b := 2 * p) (m := 100) (n := 100) (by omega) (by omega)
  have m5 := mul_small (a := 2 * p * (2 * p)) (b := room) (m := 10000) (n := 1000) (by omega) (by omega)
  have hpp : 0 < p * p := Int.mul_pos (by omega) (by omega)
  have e4 : 2 * p * (2 * p) = 4 * (p * p) := by rw [Int.mul_assoc, Int.mul_left_comm p 2 p]; omega
  have m6 : 0 < p * p * room := Int.mul_pos hpp (by omega)
  have e5 : 2 * p * (2 * p) * room = 4 * (p * p * room) := by rw [e4, Int.mul_assoc]
  have sqL : 4 * (rootsL flow p * rootsL flow p) ≤ rootsL flow (2 * p) * rootsL flow (2 * p) := by
    have := sq_le_sq (show 0 ≤ 2 * rootsL flow p by omega) f1
    have e : 2 * rootsL flow p * (2 * rootsL flow p) = 4 * (rootsL flow p * rootsL flow p) := by rw [Int.mul_assoc, Int.mul_left_comm (rootsL flow p) 2]; omega
    omega
  have sqH : rootsH flow (2 * p) * rootsH flow (2 * p) ≤ 4 * (rootsH flow p * rootsH flow p) := by
    have := sq_le_sq (show 0 ≤ rootsH flow (2 * p) by omega) f2
    have e : 2 * rootsH flow p * (2 * rootsH flow p) = 4 * (rootsH flow p * rootsH flow p) := by rw [Int.mul_assoc, Int.mul_left_comm (rootsH flow p) 2]; omega
    omega
  unfold withinB
  rw [if_pos ⟨low_good _ _ (by omega) (by omega), least_good hf hr (by omega)⟩]
  rw [decide_eq_false (fun h => by
      have h2 := (low_lt_iff (by omega) (by omega)).mp h
      rw [e5] at h2
      have h3 : x * (p * p * room) < rootsL flow p * rootsL flow p * 4 * (p * p * room) := by rw [Int.mul_assoc (rootsL flow p * rootsL flow p) 4]; exact h2
      have := Int.lt_of_mul_lt_mul_right h3 (by omega)
      omega),
    decide_eq_false (fun h => by
      have h2 := (low_lt_iff (by omega) (by omega)).mp h
      rw [e5] at h2
      have h3 : rootsH flow p * rootsH flow p * 4 * (p * p * room) < x * (p * p * room) := by rw [Int.mul_assoc (rootsH flow p * rootsH flow p) 4]; exact h2
      have := Int.lt_of_mul_lt_mul_right h3 (by omega)
      omega)]
  rfl

theorem cur_flow (l : List Int) (a s : Int) (hl : bytesOk l) (ha : 0 ≤ a ∧ a ≤ 4611686018427380000) :
    ∃ (r : List Int) (a' s' : Int), Ev (fun k => spec_l1Cur_flow.f k l a s) (r, a', s') ∧ r.length ≤ 100 ∧ a ≤ a' ∧ a' ≤ a + 1000 := by
  have loop : ∀ (n : Nat) (x : List Int) (a s : Int), x.length + n ≤ 100 → (0 ≤ a ∧ a + 2 * n + 10 ≤ 4611686018427387000) →
      ∃ (r : List Int) (a' s' : Int), Ev (fun k => spec_l1Cur_flow.l0 k x (n : Int) l a s) (r, a', s') ∧ r.length ≤ 100 ∧ a ≤ a' ∧ a' ≤ a + 2 * n + 10 := by
    intro n
    induction n with
    | zero =>
      intro x a s hx ha
      have step : ∀ {r : List Int × Int × Int}, Ev (fun k => if (x.length : Int) > 0 then ((spec_l1Cur_one.f l a s 30).bind fun bt119 => (if bt119.1 = true then ((spec_l1Cur_among.f l bt119.2.1 bt119.2.2 (([0, 31] : List Int))).bind fun bt125 => (if 0 < (x.length : Int) then (some ((x.set (0 : Int).toNat bt125.1), bt125.2.1, bt125.2.2)) else (none))) else (some (x, bt119.2.1, bt119.2.2)))) else (some (x, a, s))) r → Ev (fun k => spec_l1Cur_flow.l0 k x ((0 : Nat) : Int) l a s) r := fun h => by
        refine Ev.succ ?_; simp only [spec_l1Cur_flow.l0]; exact Ev.neg (by omega) h
      by_cases h0 : (x.length : Int) > 0
      · obtain ⟨b, a1, s1, e1, h1⟩ := cur_one l a s 30 hl (by omega)
        cases b with
        | true =>
          obtain ⟨m, a2, s2, e2, h2, h3⟩ := cur_among l a1 s1 [0, 31] hl (by omega) (by simp)
          exact ⟨_, a2, s2, step (Ev.pos h0 (Ev.bind0 e1 (Ev.pos rfl (Ev.bind0 e2 (Ev.pos (by omega) (Ev.now _)))))), by rw [List.length_set]; omega, by omega, by omega⟩
        | false => exact ⟨x, a1, s1, step (Ev.pos h0 (Ev.bind0 e1 (Ev.neg (by simp) (Ev.now _)))), by omega, by omega, by omega⟩
      · exact ⟨x, a, s, step (Ev.neg h0 (Ev.now _)), by omega, by omega, by omega⟩
    | succ n ih =>
      intro x a s hx ha
      obtain ⟨p, a1, s1, e, h0, h1, h2⟩ := cur_pick l a s 30 hl (by omega)
      obtain ⟨r, a2, s2, hr, h3, h4, h5⟩ := ih (x ++ [wrap64 (1 + p)]) a1 s1 (by simp; omega) (by omega)
      refine ⟨r, a2, s2, Ev.succ ?_, h3, by omega, by omega⟩
      simp only [spec_l1Cur_flow.l0]
      refine Ev.pos (by omega) (Ev.bind0 e (Ev.pos (by omega) ?_))
      rw [w64 (x := ((n + 1 : Nat) : Int) - 1) (by omega) (by omega), show ((n + 1 : Nat) : Int) - 1 = (n : Int) by omega]
      exact hr
  unfold spec_l1Cur_flow.f
  obtain ⟨n, a1, s1, e1, h0, h1, h2⟩ := cur_pick l a s 4 hl (by omega)
  obtain ⟨b, a2, s2, e2, h3⟩ := cur_one l a1 s1 12 hl (by omega)
  cases b with
  | true =>
    obtain ⟨m, a3, s3, e3, h4, h5⟩ := cur_among l a2 s2 [0, 8, 9] hl (by omega) (by simp)
    simp only [List.mem_cons, List.not_mem_nil, or_false] at h4
    obtain ⟨r, a4, s4, hr, h6, h7, h8⟩ := loop m.toNat [] a3 s3 (by simp; omega) (by omega)
    rw [show (m.toNat : Int) = m by omega] at hr
    refine ⟨r, a4, s4, Ev.bind0 e1 (Ev.bind0 e2 (Ev.pos rfl (Ev.bind0 e3 (Ev.succ ?_)))), h6, by omega, by omega⟩
    simp only [spec_l1Cur_flow.j0]; exact hr
  | false =>
    obtain ⟨r, a4, s4, hr, h6, h7, h8⟩ := loop (1 + n).toNat [] a2 s2 (by simp; omega) (by omega)
    rw [show ((1 + n).toNat : Int) = 1 + n by omega] at hr
    refine ⟨r, a4, s4, Ev.bind0 e1 (Ev.bind0 e2 (Ev.neg (by simp) (Ev.succ ?_))), h6, by omega, by omega⟩
    simp only [spec_l1Cur_flow.j0]; rw [w64 (by omega) (by omega)]; exact hr

theorem cur_room (l : List Int) (a s : Int) (hl : bytesOk l) (ha : 0 ≤ a ∧ a ≤ 4611686018427387900) :
    ∃ r a' s', spec_l1Cur_room.f l a s = some (r, a', s') ∧ (7 ≤ r ∧ r ≤ 1001) ∧ a ≤ a' ∧ a' ≤ a + 2 := by
  unfold spec_l1Cur_room.f
  obtain ⟨r, a1, s1, e1, h1, h2⟩ := cur_among l a s [7, 8, 20, 50, 100, 360, 1000, 1001] hl ha (by simp)
  simp only [List.mem_cons, List.not_mem_nil, or_false] at h1
  exact ⟨r, a1, s1, by rw [e1]; rfl, by omega, h2⟩

theorem spec_DrawLeastCost_ev (l : List Int) (hl : bytesOk l) : ∃ (flow : List Int) (room p : Int), Ev (fun k => spec_DrawLeastCost.f k l) (flow, room, p) ∧ flow.length ≤ 100 ∧ (0 ≤ p ∧ p ≤ 101) := by
  unfold spec_DrawLeastCost.f
  obtain ⟨flow, a1, s1, e1, h1, h2, h3⟩ := cur_flow l 0 0 hl (by omega)
  obtain ⟨room, a2, s2, e2, h4, h5⟩ := cur_room l a1 s1 hl (by omega)
  obtain ⟨p, a3, s3, e3, h6, h7⟩ := cur_among l a2 s2 [0, 1, 2, 5, 10, 100, 101] hl (by omega) (by simp)
  simp only [List.mem_cons, List.not_mem_nil, or_false] at h6
  exact ⟨flow, room, p, Ev.bind e1 (Ev.bind0 e2 (Ev.bind0 e3 (Ev.now _))), h1, by omega⟩

theorem cur_bounds (l : List Int) (a s : Int) (hl : bytesOk l) (ha : 0 ≤ a ∧ a ≤ 4611686018427380000) :
    ∃ (p q r t a' s' : Int), Ev (fun k => spec_l1Cur_bounds.f k l a s) (p, q, r, t, a', s') ∧ a ≤ a' ∧ a' ≤ a + 100 := by
  unfold spec_l1Cur_bounds.f
  obtain ⟨n, a1, s1, e1, h0, h1, h2⟩ := cur_pick l a s 200 hl (by omega)
  obtain ⟨m, a2, s2, e2, h3, h4, h5⟩ := cur_pick l a1 s1 10 hl (by omega)
  have hb := spec_RootBounds_ev n (wrap64 (1 + m))
  generalize rootB n (wrap64 (1 + m)) = R at hb
  obtain ⟨p, q, r, t, ok⟩ := R
  have yes : ∀ (a3 s3 : Int), 0 ≤ a3 ∧ a3 ≤ 4611686018427387000 → ∃ (p' q' r' t' a' s' : Int), Ev (fun k => spec_l1Cur_bounds.j0 k true l a3 s3 p q r t) (p', q', r', t', a', s') ∧ a3 ≤ a' ∧ a' ≤ a3 + 12 := fun a3 s3 ha3 => by
    obtain ⟨n1, d1, a4, s4, e4, _, _, h6, h7⟩ := cur_frac l a3 s3 hl (by omega)
    obtain ⟨n2, d2, a5, s5, e5, _, _, h8, h9⟩ := cur_frac l a4 s4 hl (by omega)
    refine ⟨n1, d1, n2, d2, a5, s5, Ev.succ ?_, by omega, by omega⟩
    simp only [spec_l1Cur_bounds.j0]
    exact Ev.pos trivial (Ev.bind e4 (Ev.bind e5 (Ev.now _)))
  cases ok with
  | true =>
    obtain ⟨b, a3, s3, e3, h6⟩ := cur_one l a2 s2 12 hl (by omega)
    cases b with
    | true =>
      obtain ⟨p', q', r', t', a', s', h7, h8⟩ := yes a3 s3 (by omega)
      exact ⟨p', q', r', t', a', s', Ev.bind0 e1 (Ev.bind0 e2 (Ev.bind hb (Ev.pos rfl (Ev.bind0 e3 h7)))), by omega, by omega⟩
    | false =>
      refine ⟨p, q, r, t, a3, s3, Ev.bind0 e1 (Ev.bind0 e2 (Ev.bind hb (Ev.pos rfl (Ev.bind0 e3 (Ev.succ ?_))))), by omega, by omega⟩
      simp only [spec_l1Cur_bounds.j0]; exact Ev.neg (by simp) (Ev.now _)
  | false =>
    obtain ⟨p', q', r', t', a', s', h7, h8⟩ := yes a2 s2 (by omega)
    exact ⟨p', q', r', t', a', s', Ev.bind0 e1 (Ev.bind0 e2 (Ev.bind hb (Ev.neg (by simp) h7))), by omega, by omega⟩
theorem spec_DrawIsWithin_ev (l : List Int) (hl : bytesOk l) : ∃ (x y a b c d : Int), Ev (fun k => spec_DrawIsWithin.f k l) (x, y, a, b, c, d) := by
  unfold spec_DrawIsWithin.f
  obtain ⟨p, q, r, t, a1, s1, e1, h1, h2⟩ := cur_bounds l 0 0 hl (by omega)
  obtain ⟨b, a2, s2, e2, h3⟩ := cur_one l a1 s1 3 hl (by omega)
  cases b with
  | true => exact ⟨p, q, p, q, r, t, Ev.bind e1 (Ev.bind0 e2 (Ev.pos rfl (Ev.now _)))⟩
  | false =>
    obtain ⟨n, d, a3, s3, e3, _⟩ := cur_frac l a2 s2 hl (by omega)
    exact ⟨n, d, p, q, r, t, Ev.bind e1 (Ev.bind0 e2 (Ev.neg (by simp) (Ev.bind e3 (Ev.now _))))⟩

theorem least_tail (l : List Int) (hl : bytesOk l) : Ev (fun k => (spec_DrawIsWithin.f k l).bind fun bt153 => ((impl_IsWithin.f k bt153.1 bt153.2.1 bt153.2.2.1 bt153.2.2.2.1 bt153.2.2.2.2.1 bt153.2.2.2.2.2).bind fun bt161 => ((spec_IsWithin.f k bt153.1 bt153.2.1 bt153.2.2.1 bt153.2.2.2.1 bt153.2.2.2.2.1 bt153.2.2.2.2.2).bind fun bt163 => (if (bt161.2 == bt163.2) = true then (some (bt161.1 == bt163.1)) else (some false))))) true := by
  obtain ⟨x, y, a, b, c, d, e⟩ := spec_DrawIsWithin_ev l hl
  refine Ev.bind e (Ev.bind (impl_IsWithin_ev x y a b c d) (Ev.bind (spec_IsWithin_ev x y a b c d) (Ev.pos (by simp) (Ev.to (Ev.now _) (by simp)))))
theorem FnLeast : laws_FnLeast.Pure := by
  intro l0 l1 _ hl0 hw0 _ hl1 hw1
  have b0 := bytesOk_of l0 hw0
  have b1 := bytesOk_of l1 hw1
  refine Ev.rounds (g := fun k => laws_FnLeast.f k l0 l1) ?_
  unfold laws_FnLeast.f
  refine Ev.ite (fun _ => Ev.now _) fun _ => ?_
  obtain ⟨flow, room, p, ed, hfl, hpr⟩ := spec_DrawLeastCost_ev l0 b0
  refine Ev.bind ed (Ev.bind (impl_LeastCost_ev flow room p (by omega)) (Ev.bind (spec_LeastCost_ev flow room p (by omega)) (Ev.neg (by simp) (Ev.succ ?_))))
  simp only [laws_FnLeast.j0, beq_self_eq_true, Bool.not_true, Bool.or_self]
  refine Ev.neg (by simp) ?_
  by_cases hc : flowOk flow = true ∧ (8 ≤ room ∧ room ≤ 1000) ∧ (1 ≤ p ∧ p ≤ 100)
  · obtain ⟨hf, hr, hp⟩ := hc
    have e1 : leastB flow room p = (lowNum (rootsL flow p * rootsL flow p) (p * p * room), lowDen (rootsL flow p * rootsL flow p) (p * p * room), lowNum (rootsH flow p * rootsH flow p) (p * p * room), lowDen (rootsH flow p * rootsH flow p) (p * p * room), true) := by
      unfold leastB; rw [if_pos ⟨hf, hr, hp⟩]
    rw [e1]
    refine Ev.pos rfl (Ev.bind (Ev.to (impl_GoodBounds_ev _ _ _ _) (least_good hf hr hp)) (Ev.pos rfl ?_))
    rw [w64 (x := 2 * p) (by omega) (by omega)]
    by_cases hq : 2 * p ≤ 100
    · have e2 : leastB flow room (2 * p) = (lowNum (rootsL flow (2 * p) * rootsL flow (2 * p)) (2 * p * (2 * p) * room), lowDen (rootsL flow (2 * p) * rootsL flow (2 * p)) (2 * p * (2 * p) * room), lowNum (rootsH flow (2 * p) * rootsH flow (2 * p)) (2 * p * (2 * p) * room), lowDen (rootsH flow (2 * p) * rootsH flow (2 * p)) (2 * p * (2 * p) * room), true) := by
        unfold leastB; rw [if_pos ⟨hf, hr, by omega, hq⟩]
      have b2 := roots_bounds hf (p := 2 * p) (by omega)
      have m2 := sq_le_sq b2.1 b2.2.1
      refine Ev.bind (Ev.to (impl_LeastCost_ev flow room (2 * p) (by omega)) e2) (Ev.pos rfl ?_)
      refine Ev.bind (Ev.to (impl_IsWithin_ev _ _ _ _ _ _) (within_least hf hr ⟨hp.1, hq⟩ _ ⟨Int.le_refl _, m2⟩)) (Ev.bind (Ev.to (impl_IsWithin_ev _ _ _ _ _ _) (within_least hf hr ⟨hp.1, hq⟩ _ ⟨m2, Int.le_refl _⟩)) (Ev.pos rfl (Ev.pos rfl (Ev.pos rfl (Ev.succ ?_)))))
      simp only [laws_FnLeast.j1]
      exact Ev.neg (by simp) (least_tail l1 b1)
    · have e2 : leastB flow room (2 * p) = (0, 0, 0, 0, false) := by unfold leastB; rw [if_neg (fun h => hq h.2.2.2)]
      exact Ev.bind (Ev.to (impl_LeastCost_ev flow room (2 * p) (by omega)) e2) (Ev.neg (by simp) (least_tail l1 b1))
  · have e1 : leastB flow room p = (0, 0, 0, 0, false) := by unfold leastB; rw [if_neg hc]
    rw [e1]
    exact Ev.neg (by simp) (least_tail l1 b1)
end Go.Proofs.Ythonbjmjhegpdaa.Pure
