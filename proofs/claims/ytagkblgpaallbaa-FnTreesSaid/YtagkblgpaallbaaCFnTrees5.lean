/- Ways are as long there as back, no way round by a third is shorter, and no star is shorter than the tree, for drawn stops: no condition but the statement's own. -/
import Derived.Test.YtagkblgpaallbaaCFnTrees1
import Derived.Test.YtagkblgpaallbaaCFnTrees0
import Derived.Test.YtagkblgpaallbaaCFnTrees2
import Derived.Test.YtagkblgpaallbaaCFnTrees4
import Derived.Test.YtagkblgpaallbaaCFnTrees3
set_option linter.unusedVariables false
set_option linter.unusedSimpArgs false
namespace Go.Proofs.Ytagkblgpaallbaa.Pure
open Go.RowKit Go.Proofs.Ytagkblgpaallbaa.Print Go.Proofs.YtagkblgpaallbaaW.PrintWords Go.Proofs.YtagkblgpaallbaaW.PrintLast Go.Proofs.YtagkblgpaallbaaW.PrintMore

theorem mx_max (a b : Int) : mx a b = max a b := by unfold mx; split <;> omega
theorem mn_min (a b : Int) : mn a b = min a b := by unfold mn; split <;> omega
theorem rdOf_nat {α : Type} (d : α) (l : List α) (i : Nat) (h : i < l.length) : rdOf d l (i : Int) = l[i] := by simp [rdOf, h]
theorem w64n {i n : Nat} (h : i < n) (hn : n ≤ 4611686018427387904) : wrap64 ((i : Int) + 1) = ((i + 1 : Nat) : Int) := by rw [w64 (by omega) (by omega)]; rfl
theorem ev_indexFunc {α : Type} (l : List α) (rdx : Int → α) (hr : ∀ (i : Nat) (h : i < l.length), rdx (i : Int) = l[i]) (c : Nat → α → Option Bool) (p : α → Bool)
    (hc : ∀ x ∈ l, Ev (fun k => c k x) (p x)) (g : Nat → Int → Option Int)
    (hg : ∀ k i, g (k + 1) i = if i < (l.length : Int) then (if 0 ≤ i then (if i < (l.length : Int) then ((c k (rdx i)).bind fun t => if t = true then some i else g k (wrap64 (i + 1))) else none) else none) else some (-1))
    (hl : l.length ≤ 4611686018427387904) : ∃ j : Int, decide (j ≥ 0) = l.any p ∧ Ev (fun k => g k 0) j := by
  have gen : ∀ (d i : Nat), i + d = l.length → ∃ j : Int, decide (j ≥ 0) = (l.drop i).any p ∧ Ev (fun k => g k (i : Int)) j := by
    intro d
    induction d with
    | zero =>
      intro i hi
      refine ⟨-1, by rw [List.drop_of_length_le (by omega)]; rfl, Ev.step0 (Ev.of_eq fun _ => rfl) fun k => ?_⟩
      rw [hg, if_neg (by omega)]
    | succ d ih =>
      intro i hi
      have hi' : i < l.length := by omega
      have hd : (l.drop i).any p = (p l[i] || (l.drop (i + 1)).any p) := by rw [List.drop_eq_getElem_cons hi', List.any_cons]
      have hcx := hc l[i] (List.getElem_mem hi')
      cases hp : p l[i] with
      | true =>
        refine ⟨i, by rw [hd, hp]; simp, Ev.step (fun k => hg k _) (Ev.pos (by omega) (Ev.pos (by omega) (Ev.pos (by omega) ?_)))⟩
        rw [hr i hi']
        exact Ev.bind hcx (Ev.pos hp (Ev.now _))
      | false =>
        obtain ⟨j, hj, hev⟩ := ih (i + 1) (by omega)
        refine ⟨j, by rw [hd, hp, hj]; rfl, Ev.step (fun k => hg k _) (Ev.pos (by omega) (Ev.pos (by omega) (Ev.pos (by omega) ?_)))⟩
        rw [hr i hi', w64 (by omega) (by omega)]
        exact Ev.bind hcx (Ev.neg (by rw [hp]; simp) hev)
  have := gen l.length 0 (by omega)
  simpa using this
theorem any_not_all {α : Type} (l : List α) (p : α → Bool) : l.any (fun x => !p x) = !(l.all p) := by
  induction l with
  | nil => rfl
  | cons a l ih => simp [ih]
theorem ev_allLoop {α β : Type} (l : List α) (rdx : Int → α) (hr : ∀ (i : Nat) (h : i < l.length), rdx (i : Int) = l[i]) (c : Nat → α → Option Bool) (p : α → Bool)
    (hc : ∀ x ∈ l, Ev (fun k => c k x) (p x)) (g : Nat → Int → Option β) (fin : Nat → Option β) (no r : β)
    (hg : ∀ k i, g (k + 1) i = if i < (l.length : Int) then (if 0 ≤ i then (if i < (l.length : Int) then ((c k (rdx i)).bind fun t => if t = true then g k (wrap64 (i + 1)) else some no) else none) else none) else fin k)
    (hl : l.length ≤ 4611686018427387904) (hyes : l.all p = true → Ev fin r) (hno : l.all p = false → r = no) : Ev (fun k => g k 0) r := by
  have gen : ∀ (d i : Nat), i + d = l.length → ∀ r, ((l.drop i).all p = true → Ev fin r) → ((l.drop i).all p = false → r = no) → Ev (fun k => g k (i : Int)) r := by
    intro d
    induction d with
    | zero =>
      intro i hi r h1 _
      refine Ev.step (fun k => hg k _) (Ev.neg (by omega) (h1 (by rw [List.drop_of_length_le (by omega)]; rfl)))
    | succ d ih =>
      intro i hi r h1 h2
      have hi' : i < l.length := by omega
      have hd : (l.drop i).all p = (p l[i] && (l.drop (i + 1)).all p) := by rw [List.drop_eq_getElem_cons hi', List.all_cons]
      have hcx := hc l[i] (List.getElem_mem hi')
      refine Ev.step (fun k => hg k _) (Ev.pos (by omega) (Ev.pos (by omega) (Ev.pos (by omega) ?_)))
      rw [hr i hi', w64 (by omega) (by omega)]
      cases hp : p l[i] with
      | true =>
        rw [hd, hp, Bool.true_and] at h1 h2
        exact Ev.bind hcx (Ev.pos hp (ih (i + 1) (by omega) r h1 h2))
      | false =>
        rw [hd, hp, Bool.false_and] at h2
        rw [h2 rfl]
        exact Ev.bind hcx (Ev.neg (by rw [hp]; simp) (Ev.now _))
  have := gen l.length 0 (by omega) r (by simpa using hyes) (by simpa using hno)
  simpa using this

theorem spec_l1Has_ev (l : List Int) (a : Int) (hl : l.length ≤ 4611686018427387904) : Ev (fun k => spec_l1Has.f k l a) (decide (a ∈ l)) := by
  unfold spec_l1Has.f
  have gen : ∀ (d i : Nat), i + d = l.length → Ev (fun k => spec_l1Has.l0 k a l (l.length : Int) (i : Int)) (decide (a ∈ l.drop i)) := by
    intro d
    induction d with
    | zero =>
      intro i hi
      rw [List.drop_of_length_le (by omega)]
      refine Ev.succ ?_
      simp only [spec_l1Has.l0]; exact Ev.neg (by omega) (Ev.now _)
    | succ d ih =>
      intro i hi
      have hi' : i < l.length := by omega
      rw [List.drop_eq_getElem_cons hi']
      refine Ev.succ ?_
      simp only [spec_l1Has.l0]
      refine Ev.pos (by omega) (Ev.pos (by omega) (Ev.pos (by omega) ?_))
      rw [rd_nat l i hi', w64 (by omega) (by omega)]
      refine Ev.ite (fun h => ?_) (fun h => ?_)
      · rw [h]; simpa using Ev.now true
      · have := ih (i + 1) (by omega)
        have e : decide (a ∈ l[i] :: l.drop (i + 1)) = decide (a ∈ l.drop (i + 1)) := by
          rw [decide_eq_decide, List.mem_cons]; constructor
          · rintro (h2 | h2)
            · exact absurd h2.symm h
            · exact h2
          · exact .inr
        rw [e]; exact this
  simpa using gen l.length 0 (by omega)

def wayOf (a b c d : Int) : Int := if a = c then ((b - d).natAbs : Int) else 3 * ((a - c).natAbs : Int) + (if 40 - (b + d) < b + d then 40 - (b + d) else b + d)
def spotOk (a b : Int) : Bool := (decide (0 ≤ a) && decide (a ≤ 9)) && (decide (0 ≤ b) && decide (b ≤ 20))
theorem spotOk_iff (a b : Int) : spotOk a b = true ↔ (0 ≤ a ∧ a ≤ 9) ∧ (0 ≤ b ∧ b ≤ 20) := by simp [spotOk]
theorem wayOf_comm (a b c d : Int) : wayOf a b c d = wayOf c d a b := by
  unfold wayOf
  by_cases h : a = c
  · rw [if_pos h, if_pos h.symm]; omega
  · rw [if_neg h, if_neg (show ¬ c = a from fun h2 => h h2.symm)]; split <;> split <;> omega
theorem wayOf_bounds {a b c d : Int} (h1 : spotOk a b = true) (h2 : spotOk c d = true) : 0 ≤ wayOf a b c d ∧ wayOf a b c d ≤ 47 := by
  rw [spotOk_iff] at h1 h2
  unfold wayOf
  split
  · omega
  · split <;> omega
theorem wayOf_zero {a b c d : Int} (h1 : spotOk a b = true) (h2 : spotOk c d = true) : wayOf a b c d = 0 ↔ a = c ∧ b = d := by
  rw [spotOk_iff] at h1 h2
  unfold wayOf
  split
  · omega
  · split <;> omega
theorem wayOf_tri {a b c d e f : Int} (h1 : spotOk a b = true) (h2 : spotOk c d = true) (h3 : spotOk e f = true) : wayOf a b e f ≤ wayOf a b c d + wayOf c d e f := by
  rw [spotOk_iff] at h1 h2 h3
  unfold wayOf
  by_cases x : a = e
  · rw [if_pos x]; subst x
    by_cases y : a = c
    · rw [if_pos y, if_pos y.symm]; omega
    · rw [if_neg y, if_neg (show ¬ c = a from fun h => y h.symm)]; split <;> split <;> omega
  · rw [if_neg x]
    by_cases y : a = c
    · subst y; rw [if_pos rfl, if_neg x]; split <;> split <;> omega
    · rw [if_neg y]
      by_cases z : c = e
      · subst z; rw [if_pos rfl]; split <;> split <;> omega
      · rw [if_neg z]; split <;> split <;> split <;> omega

theorem impl_way_eq {a b c d : Int} (h1 : spotOk a b = true) (h2 : spotOk c d = true) : impl_way.f a b c d = some (wayOf a b c d) := by
  rw [spotOk_iff] at h1 h2
  unfold impl_way.f wayOf
  by_cases h : a = c
  · rw [if_pos h, if_pos h, w64 (x := b - d) (by omega) (by omega), w64 (x := d - b) (by omega) (by omega), mx_max]; congr 1; omega
  · rw [if_neg h, if_neg h, w64 (x := a - c) (by omega) (by omega), w64 (x := c - a) (by omega) (by omega), w64 (x := b + d) (by omega) (by omega), w64 (x := 40 - (b + d)) (by omega) (by omega), mx_max, mn_min,
      w64 (x := 3 * max (a - c) (c - a)) (by omega) (by omega), w64 (by omega) (by omega)]
    congr 1; split <;> omega
theorem impl_isSpot_eq (a b : Int) : impl_isSpot.f a b = some (spotOk a b) := by
  unfold impl_isSpot.f spotOk
  rw [impl_within_eq]; simp only [Option.bind_some]
  by_cases h : (decide (0 ≤ a) && decide (a ≤ 9)) = true
  · rw [if_pos h, impl_within_eq, h]; rfl
  · rw [if_neg h, Bool.eq_false_iff.mpr h]; rfl
def wayF (a b c d : Int) : Int × Bool := if spotOk a b = true ∧ spotOk c d = true then (wayOf a b c d, true) else (0, false)
theorem impl_WayBetween_eq (a b c d : Int) : impl_WayBetween.f a b c d = some (wayF a b c d) := by
  unfold impl_WayBetween.f wayF
  rw [impl_isSpot_eq]; simp only [Option.bind_some]
  by_cases h1 : spotOk a b = true
  · rw [if_pos h1, impl_isSpot_eq]; simp only [Option.bind_some]
    by_cases h2 : spotOk c d = true
    · rw [if_pos h2, impl_way_eq h1 h2, if_pos ⟨h1, h2⟩]; rfl
    · rw [if_neg h2, if_neg (fun h => h2 h.2)]
  · rw [if_neg h1, if_neg (fun h => h1 h.1)]

theorem spec_l11Way_eq {a b c d : Int} (h1 : spotOk a b = true) (h2 : spotOk c d = true) : spec_l11Way.f a b c d = some (wayOf a b c d) := by
  rw [spotOk_iff] at h1 h2
  unfold spec_l11Way.f wayOf
  by_cases h : a = c
  · rw [if_pos h, if_pos h, w64 (x := b - d) (by omega) (by omega), spec_l1Abs_eq _ (by omega)]; rfl
  · rw [if_neg h, if_neg h, w64 (x := a - c) (by omega) (by omega), w64 (x := b + d) (by omega) (by omega), w64 (x := 40 - (b + d)) (by omega) (by omega), spec_l1Abs_eq _ (by omega)]
    simp only [Option.bind_some]
    by_cases h3 : 40 - (b + d) < b + d
    · rw [if_pos h3, if_pos h3, w64 (x := 3 * _) (by omega) (by omega), w64 (by omega) (by omega)]
    · rw [if_neg h3, if_neg h3, w64 (x := 3 * _) (by omega) (by omega), w64 (by omega) (by omega)]
theorem spec_l11Spot_eq (a b : Int) : spec_l11Spot.f a b = some (spotOk a b) := by
  unfold spec_l11Spot.f spotOk
  rw [spec_l1In_eq]; simp only [Option.bind_some]
  by_cases h : (decide (0 ≤ a) && decide (a ≤ 9)) = true
  · rw [if_pos h, spec_l1In_eq, h]; rfl
  · rw [if_neg h, Bool.eq_false_iff.mpr h]; rfl
theorem spec_WayBetween_eq (a b c d : Int) : spec_WayBetween.f a b c d = some (wayF a b c d) := by
  unfold spec_WayBetween.f wayF
  rw [spec_l11Spot_eq]; simp only [Option.bind_some]
  by_cases h1 : spotOk a b = true
  · rw [if_pos h1, spec_l11Spot_eq]; simp only [Option.bind_some]
    by_cases h2 : spotOk c d = true
    · rw [if_pos h2, spec_l11Way_eq h1 h2, if_pos ⟨h1, h2⟩]; rfl
    · rw [if_neg h2, if_neg (fun h => h2 h.2)]
  · rw [if_neg h1, if_neg (fun h => h1 h.1)]

def onWay (a b c d e f : Int) : Bool × Bool := if spotOk a b = true ∧ spotOk c d = true ∧ spotOk e f = true then (wayOf a b c d + wayOf c d e f == wayOf a b e f, true) else (false, false)
theorem impl_OnWay_ev (a b c d e f : Int) : Ev (fun k => impl_OnWay.f k a b c d e f) (onWay a b c d e f) := by
  unfold impl_OnWay.f onWay
  refine Ev.bind0 (impl_isSpot_eq a b) (Ev.ite (fun h1 => Ev.bind0 (impl_isSpot_eq c d) (Ev.ite (fun h2 => Ev.bind0 (impl_isSpot_eq e f) (Ev.succ ?_)) (fun h2 => Ev.succ ?_))) (fun h1 => Ev.succ ?_))
  · simp only [impl_OnWay.j0]
    refine Ev.ite (fun h3 => ?_) (fun h3 => ?_)
    · rw [if_neg (fun h => by simp [h.2.2] at h3)]; exact Ev.now _
    · have h3' : spotOk e f = true := by simpa using h3
      rw [if_pos ⟨h1, h2, h3'⟩]
      have b1 := wayOf_bounds h1 h2
      have b2 := wayOf_bounds h2 h3'
      refine Ev.bind0 (impl_way_eq h1 h2) (Ev.bind0 (impl_way_eq h2 h3') (Ev.bind0 (impl_way_eq h1 h3') ?_))
      rw [w64 (by omega) (by omega)]; exact Ev.now _
  · simp only [impl_OnWay.j0]; refine Ev.pos trivial ?_; rw [if_neg (fun h => h2 h.2.1)]; exact Ev.now _
  · simp only [impl_OnWay.j0]; refine Ev.pos trivial ?_; rw [if_neg (fun h => h1 h.1)]; exact Ev.now _
theorem spec_OnWay_ev (a b c d e f : Int) : Ev (fun k => spec_OnWay.f k a b c d e f) (onWay a b c d e f) := by
  unfold spec_OnWay.f onWay
  refine Ev.bind0 (spec_l11Spot_eq a b) (Ev.ite (fun h1 => Ev.bind0 (spec_l11Spot_eq c d) (Ev.ite (fun h2 => Ev.bind0 (spec_l11Spot_eq e f) (Ev.succ ?_)) (fun h2 => Ev.succ ?_))) (fun h1 => Ev.succ ?_))
  · simp only [spec_OnWay.j0]
    refine Ev.ite (fun h3 => ?_) (fun h3 => ?_)
    · rw [if_neg (fun h => by simp [h.2.2] at h3)]; exact Ev.now _
    · have h3' : spotOk e f = true := by simpa using h3
      rw [if_pos ⟨h1, h2, h3'⟩]
      have b1 := wayOf_bounds h1 h2
      have b2 := wayOf_bounds h2 h3'
      refine Ev.bind0 (spec_l11Way_eq h1 h2) (Ev.bind0 (spec_l11Way_eq h2 h3') (Ev.bind0 (spec_l11Way_eq h1 h3') ?_))
      rw [w64 (by omega) (by omega)]; exact Ev.now _
  · simp only [spec_OnWay.j0]; refine Ev.pos trivial ?_; rw [if_neg (fun h => h2 h.2.1)]; exact Ev.now _
  · simp only [spec_OnWay.j0]; refine Ev.pos trivial ?_; rw [if_neg (fun h => h1 h.1)]; exact Ev.now _

theorem cur_spot (l : List Int) (a s : Int) (hl : bytesOk l) (ha : 0 ≤ a ∧ a ≤ 4611686018427387890) :
    ∃ x y a' s', spec_l1Cur_spot.f l a s = some (x, y, a', s') ∧ a ≤ a' ∧ a' ≤ a + 6 := by
  unfold spec_l1Cur_spot.f
  obtain ⟨r, a1, s1, e1, h1⟩ := cur_one l a s 40 hl (by omega)
  rw [e1]
  cases r with
  | true =>
    obtain ⟨n, a2, s2, e2, h2, h3⟩ := cur_among l a1 s1 [(-1), 9, 10] hl (by omega) (by simp)
    obtain ⟨d, a3, s3, e3, h4, h5⟩ := cur_among l a2 s2 [0, 20, 21] hl (by omega) (by simp)
    refine ⟨n, d, a3, s3, ?_, by omega, by omega⟩
    simp only [Option.bind_some, if_true, e2, e3]
  | false =>
    obtain ⟨n, a2, s2, e2, h2, h3, h4⟩ := cur_pick l a1 s1 4 hl (by omega)
    obtain ⟨d, a3, s3, e3, h5, h6, h7⟩ := cur_pick l a2 s2 21 hl (by omega)
    refine ⟨n, d, a3, s3, ?_, by omega, by omega⟩
    simp only [Option.bind_some, if_false, e2, e3, Bool.false_eq_true]
theorem cur_stops (l : List Int) (a s : Int) (hl : bytesOk l) (ha : 0 ≤ a ∧ a ≤ 4611686018427380000) :
    ∃ (r : List S81) (a' s' : Int), Ev (fun k => spec_l1Cur_stops.f k l a s) (r, a', s') ∧ r.length ≤ 100 ∧ a ≤ a' ∧ a' ≤ a + 1000 := by
  have loop : ∀ (n : Nat) (x : List S81) (a s : Int), x.length + n ≤ 100 → (0 ≤ a ∧ a + 6 * n ≤ 4611686018427387000) →
      ∃ (r : List S81) (a' s' : Int), Ev (fun k => spec_l1Cur_stops.l0 k x (n : Int) l a s) (r, a', s') ∧ r.length ≤ 100 ∧ a ≤ a' ∧ a' ≤ a + 6 * n := by
    intro n
    induction n with
    | zero => intro x a s hx _; exact ⟨x, a, s, Ev.succ (by simp only [spec_l1Cur_stops.l0]; exact Ev.neg (by omega) (Ev.now _)), by omega, by omega, by omega⟩
    | succ n ih =>
      intro x a s hx ha
      obtain ⟨p, q, a1, s1, e, h1, h2⟩ := cur_spot l a s hl (by omega)
      obtain ⟨r, a2, s2, hr, h3, h4, h5⟩ := ih (x ++ [⟨p, q⟩]) a1 s1 (by simp; omega) (by omega)
      refine ⟨r, a2, s2, Ev.succ ?_, h3, by omega, by omega⟩
      simp only [spec_l1Cur_stops.l0]
      refine Ev.pos (by omega) (Ev.bind0 e (Ev.pos (by omega) ?_))
      rw [w64 (by omega) (by omega), show ((n + 1 : Nat) : Int) - 1 = (n : Int) by omega]
      exact hr
  unfold spec_l1Cur_stops.f
  obtain ⟨n, a1, s1, e1, h0, h1, h2⟩ := cur_pick l a s 5 hl (by omega)
  obtain ⟨b, a2, s2, e2, h3⟩ := cur_one l a1 s1 20 hl (by omega)
  cases b with
  | true =>
    obtain ⟨m, a3, s3, e3, h4, h5⟩ := cur_among l a2 s2 [0, 7, 8] hl (by omega) (by simp)
    simp only [List.mem_cons, List.not_mem_nil, or_false] at h4
    obtain ⟨r, a4, s4, hr, h6, h7, h8⟩ := loop m.toNat [] a3 s3 (by simp; omega) (by omega)
    rw [show (m.toNat : Int) = m by omega] at hr
    refine ⟨r, a4, s4, Ev.bind0 e1 (Ev.bind0 e2 (Ev.pos rfl (Ev.bind0 e3 (Ev.succ ?_)))), h6, by omega, by omega⟩
    simp only [spec_l1Cur_stops.j0]; exact hr
  | false =>
    obtain ⟨r, a4, s4, hr, h6, h7, h8⟩ := loop (1 + n).toNat [] a2 s2 (by simp; omega) (by omega)
    rw [show ((1 + n).toNat : Int) = 1 + n by omega] at hr
    refine ⟨r, a4, s4, Ev.bind0 e1 (Ev.bind0 e2 (Ev.neg (by simp) (Ev.succ ?_))), h6, by omega, by omega⟩
    simp only [spec_l1Cur_stops.j0]; rw [w64 (by omega) (by omega)]; exact hr
theorem spec_DrawTreeOf_ev (l : List Int) (hl : bytesOk l) : ∃ r : List S81, Ev (fun k => spec_DrawTreeOf.f k l) r ∧ r.length ≤ 100 := by
  obtain ⟨r, a, s, e, h, _⟩ := cur_stops l 0 0 hl (by omega)
  exact ⟨r, Ev.bind (Ev.bind e (Ev.now _)) (Ev.now _), h⟩

def stopsOk (l : List S81) : Bool := decide (1 ≤ l.length ∧ l.length ≤ 7) && l.all fun s => spotOk s.f0 s.f1
theorem rd_spot (l : List S81) (i : Nat) (h : i < l.length) : rd_T81 l (i : Int) = l[i] := by simp [rd_T81, h]
theorem impl_GoodStops_ev (l : List S81) (hl : l.length ≤ 1048576) : Ev (fun k => impl_GoodStops.f k l) (stopsOk l) := by
  unfold impl_GoodStops.f sl0_ContainsFunc.f sl1_IndexFunc.f
  refine Ev.bind0 (impl_within_eq _ _ _) ?_
  obtain ⟨j, hj, hev⟩ := ev_indexFunc l (rd_T81 l) (rd_spot l) (fun k x => impl_GoodStops_1.f x.f0 x.f1) (fun x => !spotOk x.f0 x.f1)
    (fun x _ => by unfold impl_GoodStops_1.f; exact Ev.bind0 (impl_isSpot_eq _ _) (Ev.now _))
    (fun k i => sl1_IndexFunc.l0 k l (l.length : Int) i) (fun k i => by simp only [sl1_IndexFunc.l0]) (by omega)
  rw [any_not_all l (fun s => spotOk s.f0 s.f1)] at hj
  unfold stopsOk
  by_cases h : 1 ≤ l.length ∧ l.length ≤ 7
  · rw [decide_eq_true (show (1 : Int) ≤ l.length by omega), decide_eq_true (show (l.length : Int) ≤ 7 by omega), decide_eq_true h]
    refine Ev.pos rfl (Ev.bind (Ev.bind hev (Ev.now _)) (Ev.to (Ev.now _) ?_))
    rw [hj]; simp
  · have : (decide ((1 : Int) ≤ l.length) && decide ((l.length : Int) ≤ 7)) = false := by
      rw [Bool.and_eq_false_iff]
      by_cases h1 : 1 ≤ l.length
      · right; exact decide_eq_false (by omega)
      · left; exact decide_eq_false (by omega)
    rw [this, decide_eq_false h]; exact Ev.neg (by simp) (Ev.now _)
theorem spec_GoodStops_ev (l : List S81) (hl : l.length ≤ 1048576) : Ev (fun k => spec_GoodStops.f k l) (stopsOk l) := by
  unfold spec_GoodStops.f
  refine ev_allLoop l (rd_T81 l) (rd_spot l) (fun k x => spec_l11Spot.f x.f0 x.f1) (fun x => spotOk x.f0 x.f1) (fun x _ => Ev.of_eq fun _ => spec_l11Spot_eq _ _)
    (fun k i => spec_GoodStops.l0 k l l (l.length : Int) i) (fun k => (spec_l1In.f (l.length : Int) 1 7).bind fun t104 => some t104) false _ (fun k i => by simp only [spec_GoodStops.l0]) (by omega) ?_ ?_
  · intro ha
    refine Ev.bind0 (spec_l1In_eq _ _ _) (Ev.to (Ev.now _) ?_)
    unfold stopsOk; rw [ha, Bool.and_true, ← Bool.decide_and, decide_eq_decide]; omega
  · intro ha; unfold stopsOk; rw [ha, Bool.and_false]

end Go.Proofs.Ytagkblgpaallbaa.Pure
namespace Go.Proofs.Ytagkblgpaallbaa.Pure
open Go.RowKit Go.Proofs.Ytagkblgpaallbaa.Print Go.Proofs.YtagkblgpaallbaaW.PrintWords Go.Proofs.YtagkblgpaallbaaW.PrintLast Go.Proofs.YtagkblgpaallbaaW.PrintMore

def jn (E : List (Nat × Nat)) (T : Nat → Bool) : Nat → Nat → Prop
  | 0, u => T u = true
  | n + 1, u => T u = true ∨ ∃ v, ((u, v) ∈ E ∨ (v, u) ∈ E) ∧ jn E T n v
def Jn (E : List (Nat × Nat)) (T : Nat → Bool) (u : Nat) : Prop := ∃ n, jn E T n u
theorem Jn.base {E : List (Nat × Nat)} {T : Nat → Bool} {u : Nat} (h : T u = true) : Jn E T u := ⟨0, h⟩
theorem Jn.step {E : List (Nat × Nat)} {T : Nat → Bool} {u v : Nat} (h : (u, v) ∈ E ∨ (v, u) ∈ E) (k : Jn E T v) : Jn E T u := by
  obtain ⟨n, hn⟩ := k; exact ⟨n + 1, .inr ⟨v, h, hn⟩⟩
theorem Jn.rule {E : List (Nat × Nat)} {T : Nat → Bool} {P : Nat → Prop} (hb : ∀ u, T u = true → P u)
    (hs : ∀ u v, ((u, v) ∈ E ∨ (v, u) ∈ E) → Jn E T v → P v → P u) {u : Nat} (h : Jn E T u) : P u := by
  obtain ⟨n, hn⟩ := h
  induction n generalizing u with
  | zero => exact hb u hn
  | succ n ih =>
    rcases hn with h | ⟨v, h, hv⟩
    · exact hb u h
    · exact hs u v h ⟨n, hv⟩ (ih hv)
theorem Jn.trans {E E' : List (Nat × Nat)} {T T' : Nat → Bool} {u : Nat} (h : Jn E T u) (k : ∀ x, T x = true → Jn E' T' x) (hE : ∀ e ∈ E, e ∈ E') : Jn E' T' u :=
  h.rule k fun _ _ he _ p => Jn.step (he.imp (hE _) (hE _)) p
theorem Jn.cross {E : List (Nat × Nat)} {J : Nat → Bool} {v : Nat} (h : Jn E J v) : J v = false →
    ∃ e ∈ E, ∃ x s, (e = (x, s) ∨ e = (s, x)) ∧ J x = false ∧ J s = true ∧ Jn (E.erase e) (fun u => decide (u = v)) x := by
  refine h.rule (P := fun v => J v = false → ∃ e ∈ E, ∃ x s, (e = (x, s) ∨ e = (s, x)) ∧ J x = false ∧ J s = true ∧ Jn (E.erase e) (fun u => decide (u = v)) x) (fun u hu hv => absurd hu (by simp [hv])) ?_
  intro u w hf hw ih hu
  cases hJ : J w with
  | true =>
    have hx : Jn (E.erase ((u, w) : Nat × Nat)) (fun y => decide (y = u)) u := Jn.base (by simp)
    have hx' : Jn (E.erase ((w, u) : Nat × Nat)) (fun y => decide (y = u)) u := Jn.base (by simp)
    rcases hf with hf | hf
    · exact ⟨_, hf, u, w, .inl rfl, hu, hJ, hx⟩
    · exact ⟨_, hf, u, w, .inr rfl, hu, hJ, hx'⟩
  | false =>
    obtain ⟨e, he, x, s, hxs, hx, hs, hj⟩ := ih hJ
    refine ⟨e, he, x, s, hxs, hx, hs, hj.trans (fun y hy => ?_) (fun _ h => h)⟩
    have hyw : y = w := by simpa using hy
    subst hyw
    have hne : ∀ f : Nat × Nat, f = (u, y) ∨ f = (y, u) → f ≠ e := by
      rintro f hf1 rfl
      rcases hf1 with h1 | h1 <;> rcases hxs with h2 | h2 <;> rw [h1] at h2 <;> injection h2 with h3 h4 <;> subst h3 <;> subst h4 <;> simp_all
    refine Jn.step (v := u) ?_ (Jn.base (by simp))
    rcases hf with hf | hf
    · exact .inr ((List.mem_erase_of_ne (hne _ (.inl rfl))).mpr hf)
    · exact .inl ((List.mem_erase_of_ne (hne _ (.inr rfl))).mpr hf)
theorem Jn.move {E : List (Nat × Nat)} {J : Nat → Bool} {v x s : Nat} {e : Nat × Nat} (hxs : e = (x, s) ∨ e = (s, x)) (hs : J s = true)
    (hj : Jn (E.erase e) (fun u => decide (u = v)) x) {u : Nat} (h : Jn E J u) : Jn (E.erase e) (fun y => J y || decide (y = v)) u := by
  have hx : Jn (E.erase e) (fun y => J y || decide (y = v)) x := hj.trans (fun y hy => Jn.base (by simp at hy; simp [hy])) (fun _ h => h)
  have hss : Jn (E.erase e) (fun y => J y || decide (y = v)) s := Jn.base (by simp [hs])
  refine h.rule (P := fun u => Jn (E.erase e) (fun y => J y || decide (y = v)) u) (fun u hu => Jn.base (by simp [hu])) ?_
  intro u w hf _ ih
  by_cases h1 : (u, w) = e
  · rcases hxs with h2 | h2 <;> rw [h2] at h1 <;> injection h1 with h3 h4
    · rw [h3]; exact hx
    · rw [h3]; exact hss
  · by_cases h2 : (w, u) = e
    · rcases hxs with h3 | h3 <;> rw [h3] at h2 <;> injection h2 with h4 h5
      · rw [h5]; exact hss
      · rw [h5]; exact hx
    · refine Jn.step (v := w) ?_ ih
      rcases hf with hf | hf
      · exact .inl ((List.mem_erase_of_ne h1).mpr hf)
      · exact .inr ((List.mem_erase_of_ne h2).mpr hf)
def sumW (w : Nat → Nat → Int) (E : List (Nat × Nat)) : Int := (E.map fun e => w e.1 e.2).sum
theorem sumW_erase (w : Nat → Nat → Int) (E : List (Nat × Nat)) (e : Nat × Nat) (h : e ∈ E) : sumW w (E.erase e) + w e.1 e.2 = sumW w E := by
  induction E with
  | nil => simp at h
  | cons a E ih =>
    by_cases ha : a = e
    · subst ha; rw [List.erase_cons_head]; simp [sumW]; omega
    · rw [List.erase_cons_tail (by simpa using ha)]
      have := ih (by rcases List.mem_cons.mp h with h1 | h1; exact absurd h1.symm ha; exact h1)
      simp only [sumW, List.map_cons, List.sum_cons] at this ⊢; omega
theorem sumW_nonneg (w : Nat → Nat → Int) (E : List (Nat × Nat)) (h : ∀ e ∈ E, 0 ≤ w e.1 e.2) : 0 ≤ sumW w E := by
  induction E with
  | nil => simp [sumW]
  | cons a E ih =>
    have h1 := h a (by simp)
    have h2 := ih fun e he => h e (by simp [he])
    simp only [sumW, List.map_cons, List.sum_cons] at h2 ⊢; omega
theorem prim_step (w : Nat → Nat → Int) (n : Nat) (J : Nat → Bool) (E : List (Nat × Nat)) (v b : Nat) (hv : v < n) (hJv : J v = false)
    (hsym : ∀ a b, w a b = w b a) (hE : ∀ e ∈ E, e.1 < n ∧ e.2 < n) (hj : ∀ u, u < n → Jn E J u)
    (hmin : ∀ x s, x < n → s < n → J x = false → J s = true → w v b ≤ w x s) :
    ∃ E', (∀ e ∈ E', e ∈ E) ∧ sumW w E' + w v b ≤ sumW w E ∧ ∀ u, u < n → Jn E' (fun y => J y || decide (y = v)) u := by
  obtain ⟨e, he, x, s, hxs, hx, hs, hj2⟩ := (hj v hv).cross hJv
  have hn := hE e he
  have hw : w v b ≤ w e.1 e.2 := by
    rcases hxs with h | h <;> subst h
    · exact hmin x s hn.1 hn.2 hx hs
    · dsimp only at hn ⊢; rw [hsym s x]; exact hmin x s hn.2 hn.1 hx hs
  have h2 := sumW_erase w E e he
  exact ⟨E.erase e, fun f hf => List.mem_of_mem_erase hf, by omega, fun u hu => Jn.move hxs hs hj2 (hj u hu)⟩

def nearUp (w : Nat → Nat → Int) (J : Nat → Bool) (i : Nat) : Nat → Option Nat
  | 0 => none
  | k + 1 => match nearUp w J i k with
    | none => if J k = true then some k else none
    | some m => if J k = true ∧ w i k < w i m then some k else some m
def pickUp (w : Nat → Nat → Int) (J : Nat → Bool) (n : Nat) : Nat → Option (Nat × Nat)
  | 0 => none
  | i + 1 => match pickUp w J n i with
    | none => if J i = true then none else (nearUp w J i n).map fun m => (i, m)
    | some p => if J i = true then some p else match nearUp w J i n with
      | none => some p
      | some m => if w i m < w p.1 p.2 then some (i, m) else some p
theorem nearUp_some {w : Nat → Nat → Int} {J : Nat → Bool} {i k m : Nat} (h : nearUp w J i k = some m) : m < k ∧ J m = true ∧ ∀ j, j < k → J j = true → w i m ≤ w i j := by
  induction k generalizing m with
  | zero => simp [nearUp] at h
  | succ k ih =>
    unfold nearUp at h
    cases hn : nearUp w J i k with
    | none =>
      rw [hn] at h; dsimp only at h
      have hno : ∀ j, j < k → J j = false := by
        intro j hj
        have : ∀ k, nearUp w J i k = none → ∀ j, j < k → J j = false := by
          intro k
          induction k with
          | zero => intro _ j hj; omega
          | succ k ih2 =>
            intro hk j hj
            unfold nearUp at hk
            cases hn2 : nearUp w J i k with
            | none =>
              rw [hn2] at hk; dsimp only at hk
              split at hk
              · cases hk
              · rename_i hJ
                rcases Nat.lt_or_ge j k with h1 | h1
                · exact ih2 hn2 j h1
                · obtain rfl : j = k := by omega
                  simpa using hJ
            | some m2 => rw [hn2] at hk; dsimp only at hk; split at hk <;> cases hk
        exact this k hn j hj
      split at h
      · rename_i hJ
        injection h with h; subst h
        refine ⟨by omega, hJ, fun j hj hJj => ?_⟩
        rcases Nat.lt_or_ge j k with h1 | h1
        · rw [hno j h1] at hJj; cases hJj
        · obtain rfl : j = k := by omega
          exact Int.le_refl _
      · cases h
    | some m2 =>
      rw [hn] at h; dsimp only at h
      obtain ⟨h1, h2, h3⟩ := ih hn
      split at h
      · rename_i hJ
        injection h with h; subst h
        refine ⟨by omega, hJ.1, fun j hj hJj => ?_⟩
        rcases Nat.lt_or_ge j k with h4 | h4
        · have := h3 j h4 hJj; omega
        · obtain rfl : j = k := by omega
          exact Int.le_refl _
      · rename_i hJ
        injection h with h; subst h
        refine ⟨by omega, h2, fun j hj hJj => ?_⟩
        rcases Nat.lt_or_ge j k with h4 | h4
        · exact h3 j h4 hJj
        · obtain rfl : j = k := by omega
          rcases Int.lt_or_le (w i j) (w i m2) with h5 | h5
          · exact absurd ⟨hJj, h5⟩ hJ
          · exact h5
theorem nearUp_ex {w : Nat → Nat → Int} {J : Nat → Bool} {i k j : Nat} (hj : j < k) (hJ : J j = true) : ∃ m, nearUp w J i k = some m := by
  induction k with
  | zero => omega
  | succ k ih =>
    unfold nearUp
    cases hn : nearUp w J i k with
    | none =>
      dsimp only
      rcases Nat.lt_or_ge j k with h1 | h1
      · obtain ⟨m, hm⟩ := ih h1; rw [hn] at hm; cases hm
      · obtain rfl : j = k := by omega
        exact ⟨j, by rw [if_pos hJ]⟩
    | some m => dsimp only; split <;> exact ⟨_, rfl⟩
theorem pickUp_some {w : Nat → Nat → Int} {J : Nat → Bool} {n i : Nat} {p : Nat × Nat} (h : pickUp w J n i = some p) :
    p.1 < i ∧ J p.1 = false ∧ p.2 < n ∧ J p.2 = true ∧ ∀ x s, x < i → s < n → J x = false → J s = true → w p.1 p.2 ≤ w x s := by
  induction i generalizing p with
  | zero => simp [pickUp] at h
  | succ i ih =>
    have hnone : ∀ i, pickUp w J n i = none → ∀ x s, x < i → s < n → J x = false → J s = true → False := by
      intro i
      induction i with
      | zero => intro _ x s hx; omega
      | succ i ih2 =>
        intro hi x s hx hs hJx hJs
        unfold pickUp at hi
        cases hp : pickUp w J n i with
        | none =>
          rw [hp] at hi; dsimp only at hi
          rcases Nat.lt_or_ge x i with h1 | h1
          · exact ih2 hp x s h1 hs hJx hJs
          · obtain rfl : x = i := by omega
            rw [if_neg (by simp [hJx])] at hi
            obtain ⟨m, hm⟩ := nearUp_ex (w := w) (i := x) hs hJs
            rw [hm] at hi; cases hi
        | some q =>
          rw [hp] at hi; dsimp only at hi
          split at hi
          · cases hi
          · split at hi
            · cases hi
            · split at hi <;> cases hi
    unfold pickUp at h
    cases hp : pickUp w J n i with
    | none =>
      rw [hp] at h; dsimp only at h
      split at h
      · cases h
      · rename_i hJ
        have hJ' : J i = false := by simpa using hJ
        cases hm : nearUp w J i n with
        | none => rw [hm] at h; cases h
        | some m =>
          rw [hm] at h; injection h with h; subst h
          obtain ⟨h1, h2, h3⟩ := nearUp_some hm
          refine ⟨by dsimp only; omega, hJ', h1, h2, fun x s hx hs hJx hJs => ?_⟩
          rcases Nat.lt_or_ge x i with h4 | h4
          · exact (hnone i hp x s h4 hs hJx hJs).elim
          · obtain rfl : x = i := by omega
            exact h3 s hs hJs
    | some q =>
      rw [hp] at h; dsimp only at h
      obtain ⟨h1, h2, h3, h4, h5⟩ := ih hp
      split at h
      · rename_i hJ
        injection h with h; subst h
        refine ⟨by omega, h2, h3, h4, fun x s hx hs hJx hJs => ?_⟩
        rcases Nat.lt_or_ge x i with h6 | h6
        · exact h5 x s h6 hs hJx hJs
        · obtain rfl : x = i := by omega
          rw [hJ] at hJx; cases hJx
      · rename_i hJ
        have hJ' : J i = false := by simpa using hJ
        cases hm : nearUp w J i n with
        | none =>
          obtain ⟨m, hm2⟩ := nearUp_ex (w := w) (i := i) h3 h4
          rw [hm] at hm2; cases hm2
        | some m =>
          rw [hm] at h; dsimp only at h
          obtain ⟨g1, g2, g3⟩ := nearUp_some hm
          split at h
          · rename_i hlt
            injection h with h; subst h
            refine ⟨by dsimp only; omega, hJ', g1, g2, fun x s hx hs hJx hJs => ?_⟩
            rcases Nat.lt_or_ge x i with h6 | h6
            · have := h5 x s h6 hs hJx hJs; dsimp only; omega
            · obtain rfl : x = i := by omega
              exact g3 s hs hJs
          · rename_i hlt
            injection h with h; subst h
            refine ⟨by omega, h2, h3, h4, fun x s hx hs hJx hJs => ?_⟩
            rcases Nat.lt_or_ge x i with h6 | h6
            · exact h5 x s h6 hs hJx hJs
            · obtain rfl : x = i := by omega
              have := g3 s hs hJs; omega
theorem pickUp_ex {w : Nat → Nat → Int} {J : Nat → Bool} {n i x s : Nat} (hx : x < i) (hJx : J x = false) (hs : s < n) (hJs : J s = true) : ∃ p, pickUp w J n i = some p := by
  induction i with
  | zero => omega
  | succ i ih =>
    obtain ⟨m, hm⟩ := nearUp_ex (w := w) (i := i) hs hJs
    unfold pickUp
    cases hp : pickUp w J n i with
    | none =>
      dsimp only
      rcases Nat.lt_or_ge x i with h1 | h1
      · obtain ⟨p, hp2⟩ := ih h1; rw [hp] at hp2; cases hp2
      · obtain rfl : x = i := by omega
        rw [if_neg (by simp [hJx]), hm]; exact ⟨_, rfl⟩
    | some p => dsimp only; rw [hm]; dsimp only; split
                · exact ⟨_, rfl⟩
                · split <;> exact ⟨_, rfl⟩

end Go.Proofs.Ytagkblgpaallbaa.Pure
namespace Go.Proofs.Ytagkblgpaallbaa.Pure
open Go.RowKit Go.Proofs.Ytagkblgpaallbaa.Print Go.Proofs.YtagkblgpaallbaaW.PrintWords Go.Proofs.YtagkblgpaallbaaW.PrintLast Go.Proofs.YtagkblgpaallbaaW.PrintMore

def updP (w : Nat → Nat → Int) (J : Nat → Bool) (i : Nat) (p : Option (Nat × Nat)) (m : Option Nat) : Option (Nat × Nat) :=
  if J i = true then p else match m with
    | none => p
    | some m => match p with
      | none => some (i, m)
      | some q => if w i m < w q.1 q.2 then some (i, m) else some q
theorem pickUp_succ (w : Nat → Nat → Int) (J : Nat → Bool) (n i : Nat) : pickUp w J n (i + 1) = updP w J i (pickUp w J n i) (nearUp w J i n) := by
  unfold updP
  conv => lhs; unfold pickUp
  cases pickUp w J n i with
  | none =>
    by_cases h : J i = true
    · simp [h]
    · cases nearUp w J i n <;> simp [h]
  | some q =>
    by_cases h : J i = true
    · simp [h]
    · cases nearUp w J i n <;> simp [h]
theorem nearUp_succ (w : Nat → Nat → Int) (J : Nat → Bool) (i k : Nat) : nearUp w J i (k + 1) = match nearUp w J i k with
    | none => if J k = true then some k else none
    | some m => if J k = true ∧ w i k < w i m then some k else some m := rfl
theorem updP_step (w : Nat → Nat → Int) (J : Nat → Bool) (i j : Nat) (p : Option (Nat × Nat)) (hJi : J i = false) (hJj : J j = true) :
    updP w J i p (nearUp w J i (j + 1)) = match updP w J i p (nearUp w J i j) with
      | none => some (i, j)
      | some q => if w i j < w q.1 q.2 then some (i, j) else some q := by
  unfold updP
  rw [if_neg (by simp [hJi]), if_neg (by simp [hJi])]
  conv => lhs; unfold nearUp
  cases hn : nearUp w J i j with
  | none => dsimp only; rw [if_pos hJj]
  | some m =>
    dsimp only
    cases p with
    | none =>
      dsimp only
      by_cases h : w i j < w i m
      · rw [if_pos ⟨hJj, h⟩, if_pos h]
      · rw [if_neg (fun h2 => h h2.2), if_neg h]
    | some q =>
      dsimp only
      by_cases h : w i j < w i m
      · rw [if_pos ⟨hJj, h⟩]; dsimp only
        by_cases h2 : w i m < w q.1 q.2
        · rw [if_pos h2]; dsimp only; rw [if_pos h, if_pos (by omega)]
        · rw [if_neg h2]
      · rw [if_neg (fun h2 => h h2.2)]; dsimp only
        by_cases h2 : w i m < w q.1 q.2
        · rw [if_pos h2]; dsimp only; rw [if_neg h]
        · rw [if_neg h2]; dsimp only; rw [if_neg (by omega)]
theorem updP_skip (w : Nat → Nat → Int) (J : Nat → Bool) (i j : Nat) (p : Option (Nat × Nat)) (hJj : J j = false) : updP w J i p (nearUp w J i (j + 1)) = updP w J i p (nearUp w J i j) := by
  congr 1
  conv => lhs; unfold nearUp
  cases nearUp w J i j with
  | none => dsimp only; rw [if_neg (by simp [hJj])]
  | some m => dsimp only; rw [if_neg (by simp [hJj])]
def jd (J : List Bool) (m : Nat) : Bool := rdOf false J (m : Int)
theorem jd_get (J : List Bool) (m : Nat) (h : m < J.length) : jd J m = J[m] := rdOf_nat _ _ _ h
theorem jd_set (J : List Bool) (v m : Nat) (h : v < J.length) : jd (J.set v true) m = (jd J m || decide (m = v)) := by
  by_cases hm : m < J.length
  · rw [jd_get _ _ (by rw [List.length_set]; exact hm), jd_get _ _ hm, List.getElem_set]
    by_cases e : v = m
    · subst e; simp
    · rw [if_neg e, decide_eq_false (fun h2 : m = v => e h2.symm), Bool.or_false]
  · have h1 : jd (J.set v true) m = false := by simp only [jd, rdOf, toNat_nat]; rw [List.getD_eq_getElem?_getD, List.getElem?_eq_none (by rw [List.length_set]; omega)]; rfl
    have h2 : jd J m = false := by simp only [jd, rdOf, toNat_nat]; rw [List.getD_eq_getElem?_getD, List.getElem?_eq_none (by omega)]; rfl
    rw [h1, h2]; simp; omega
def primSt (w : Nat → Nat → Int) (n : Nat) : Nat → List Int × Int × List Bool
  | 0 => (List.replicate n (-1), 0, (List.replicate n false).set 0 true)
  | t + 1 => match pickUp w (jd (primSt w n t).2.2) n n with
    | none => primSt w n t
    | some q => ((primSt w n t).1.set q.1 (q.2 : Int), (primSt w n t).2.1 + w q.1 q.2, (primSt w n t).2.2.set q.1 true)
def sumTo (f : Nat → Int) : Nat → Int
  | 0 => 0
  | n + 1 => sumTo f n + f n
theorem sumTo_congr {f g : Nat → Int} {n : Nat} (h : ∀ i, i < n → f i = g i) : sumTo f n = sumTo g n := by
  induction n with
  | zero => rfl
  | succ n ih => rw [sumTo, sumTo, ih (fun i hi => h i (by omega)), h n (by omega)]
theorem sumTo_one {f g : Nat → Int} {n v : Nat} (hv : v < n) (h : ∀ i, i < n → i ≠ v → f i = g i) : sumTo f n = sumTo g n + (f v - g v) := by
  induction n with
  | zero => omega
  | succ n ih =>
    rw [sumTo, sumTo]
    by_cases e : v = n
    · subst e; rw [sumTo_congr (fun i hi => h i (by omega) (by omega))]; omega
    · rw [ih (by omega) (fun i hi hn => h i (by omega) hn), h n (by omega) (by omega)]; omega
theorem sumTo_zero {f : Nat → Int} {n : Nat} (h : ∀ i, i < n → f i = 0) : sumTo f n = 0 := by
  induction n with
  | zero => rfl
  | succ n ih => rw [sumTo, ih (fun i hi => h i (by omega)), h n (by omega)]; rfl
theorem sumTo_bounds {f : Nat → Int} {n : Nat} {lo hi : Int} (h : ∀ i, i < n → lo ≤ f i ∧ f i ≤ hi) : lo * n ≤ sumTo f n ∧ sumTo f n ≤ hi * n := by
  induction n with
  | zero => simp [sumTo]
  | succ n ih =>
    have h1 := ih (fun i hi => h i (by omega))
    have h2 := h n (by omega)
    have e1 : lo * ((n + 1 : Nat) : Int) = lo * n + lo := by push_cast; rw [Int.mul_add]; simp
    have e2 : hi * ((n + 1 : Nat) : Int) = hi * n + hi := by push_cast; rw [Int.mul_add]; simp
    rw [e1, e2, sumTo]; omega
theorem exists_false (J : List Bool) (h : J.count true < J.length) : ∃ m, m < J.length ∧ jd J m = false := by
  have : ¬ ∀ b ∈ J, true = b := fun hb => by have := List.count_eq_length.mpr hb; omega
  have : ∃ b, b ∈ J ∧ b = false := by
    refine Classical.byContradiction fun hn => this fun b hb => ?_
    cases b with
    | true => rfl
    | false => exact absurd ⟨false, hb, rfl⟩ hn
  obtain ⟨b, hb, e⟩ := this
  obtain ⟨m, hm, rfl⟩ := List.getElem_of_mem hb
  exact ⟨m, hm, by rw [jd_get _ _ hm]; exact e⟩
structure PrimOk (w : Nat → Nat → Int) (n : Nat) (E : List (Nat × Nat)) (t : Nat) (s : List Int × Int × List Bool) : Prop where
  l1 : s.1.length = n
  l2 : s.2.2.length = n
  cnt : s.2.2.count true = t + 1
  j0 : jd s.2.2 0 = true
  o0 : rd s.1 0 = -1
  up : ∀ i, i < n → i ≠ 0 → jd s.2.2 i = true → 0 ≤ rd s.1 i ∧ rd s.1 i < n ∧ rd s.1 i ≠ i
  all : ∀ i, i < n → -1 ≤ rd s.1 i ∧ rd s.1 i < n
  sum : s.2.1 = sumTo (fun i => if jd s.2.2 i = true ∧ i ≠ 0 then w i (rd s.1 i).toNat else 0) n
  pot : ∃ E', (∀ e ∈ E', e ∈ E) ∧ sumW w E' + s.2.1 ≤ sumW w E ∧ ∀ u, u < n → Jn E' (jd s.2.2) u
theorem rd_set (l : List Int) (v : Nat) (x : Int) (i : Nat) (h : v < l.length) : rd (l.set v x) i = if i = v then x else rd l i := by
  by_cases hi : i < l.length
  · rw [rd_nat _ _ (by rw [List.length_set]; exact hi), rd_nat _ _ hi, List.getElem_set]
    by_cases e : v = i
    · rw [if_pos e, if_pos e.symm]
    · rw [if_neg e, if_neg (fun h2 => e h2.symm)]
  · rw [if_neg (by omega)]; simp only [rd, toNat_nat]
    rw [List.getD_eq_getElem?_getD, List.getD_eq_getElem?_getD, List.getElem?_eq_none (by rw [List.length_set]; omega), List.getElem?_eq_none (by omega)]
theorem prim_ok (w : Nat → Nat → Int) (n : Nat) (E : List (Nat × Nat)) (hn : 0 < n) (hsym : ∀ a b, w a b = w b a) (hE : ∀ e ∈ E, e.1 < n ∧ e.2 < n)
    (hj : ∀ u, u < n → Jn E (fun u => decide (u = 0)) u) (t : Nat) (ht : t < n) : PrimOk w n E t (primSt w n t) := by
  induction t with
  | zero =>
    have hjd : ∀ i, jd ((List.replicate n false).set 0 true) i = decide (i = 0) := fun i => by
      rw [jd_set _ _ _ (by simpa using hn)]
      have : jd (List.replicate n false) i = false := by
        simp only [jd, rdOf, toNat_nat, List.getD_eq_getElem?_getD, List.getElem?_replicate]; split <;> rfl
      rw [this]; simp
    have hrd : ∀ i : Nat, i < n → rd (List.replicate n (-1)) i = -1 := fun i hi => by rw [rd_nat _ _ (by simpa using hi)]; simp
    refine ⟨by simp [primSt], by simp [primSt], ?_, ?_, ?_, ?_, ?_, ?_, ?_⟩
    · unfold primSt; dsimp only
      rw [List.count_set (by simpa using hn)]; simp [List.count_replicate]
    · exact hjd 0
    · exact hrd 0 hn
    · intro i hi h0 h1
      have := hjd i
      unfold primSt at h1; dsimp only at h1; rw [this] at h1; simp at h1; exact absurd h1 h0
    · intro i hi
      have := hrd i hi
      unfold primSt; dsimp only; omega
    · unfold primSt; dsimp only
      rw [sumTo_zero]
      intro i hi
      rw [hjd]; rw [if_neg (by simp)]
    · refine ⟨E, fun e he => he, by unfold primSt; dsimp only; omega, fun u hu => ?_⟩
      have : jd (primSt w n 0).2.2 = fun u => decide (u = 0) := funext fun i => hjd i
      rw [this]; exact hj u hu
  | succ t ih =>
    have h := ih (by omega)
    have hlen := h.l2
    obtain ⟨x, hx, hJx⟩ := exists_false (primSt w n t).2.2 (by rw [h.cnt, h.l2]; omega)
    obtain ⟨q, hq⟩ := pickUp_ex (w := w) (J := jd (primSt w n t).2.2) (n := n) (i := n) (x := x) (s := 0) (by omega) hJx hn h.j0
    obtain ⟨g1, g2, g3, g4, g5⟩ := pickUp_some hq
    have hq0 : q.1 ≠ 0 := fun e => by rw [e, h.j0] at g2; cases g2
    have hs : primSt w n (t + 1) = ((primSt w n t).1.set q.1 (q.2 : Int), (primSt w n t).2.1 + w q.1 q.2, (primSt w n t).2.2.set q.1 true) := by
      conv => lhs; unfold primSt
      rw [hq]
    rw [hs]
    generalize primSt w n t = s at *
    obtain ⟨out, sm, J⟩ := s
    have hJl : J.length = n := h.l2
    have hol : out.length = n := h.l1
    have hjs : ∀ m, jd (J.set q.1 true) m = (jd J m || decide (m = q.1)) := fun m => jd_set J q.1 m (by omega)
    have hrs : ∀ m : Nat, rd (out.set q.1 (q.2 : Int)) m = if m = q.1 then (q.2 : Int) else rd out m := fun m => rd_set out q.1 _ m (by omega)
    dsimp only at *
    refine ⟨by dsimp only; rw [List.length_set]; exact hol, by dsimp only; rw [List.length_set]; exact hJl, ?_, ?_, ?_, ?_, ?_, ?_, ?_⟩
    · dsimp only
      have hqe : J[q.1]'(by omega) = false := by rw [← jd_get J q.1 (by omega)]; exact g2
      have hc : J.count true = t + 1 := h.cnt
      rw [List.count_set (by omega), hqe]
      simp; omega
    · dsimp only; rw [hjs, show jd J 0 = true from h.j0]; rfl
    · dsimp only
      have := hrs 0
      rw [if_neg (fun e => hq0 e.symm)] at this
      exact this.trans h.o0
    · dsimp only
      intro i hi h0 h1
      rw [hjs] at h1
      rw [hrs]
      by_cases e : i = q.1
      · rw [if_pos e]
        refine ⟨by omega, by omega, fun e2 => ?_⟩
        have : q.2 = q.1 := by omega
        rw [this, g2] at g4; cases g4
      · rw [if_neg e]
        exact h.up i hi h0 (by simpa [e] using h1)
    · dsimp only
      intro i hi
      rw [hrs]
      by_cases e : i = q.1
      · rw [if_pos e]; omega
      · rw [if_neg e]; exact h.all i hi
    · dsimp only
      have hsum := h.sum
      dsimp only at hsum
      rw [sumTo_one (g := fun i => if jd J i = true ∧ i ≠ 0 then w i (rd out i).toNat else 0) (v := q.1) g1 (fun i hi hne => ?_)]
      · rw [← hsum]
        rw [hjs, hrs, if_pos rfl, if_pos ⟨by simp, hq0⟩, if_neg (by rw [g2]; simp), toNat_nat]; omega
      · rw [hjs, hrs, if_neg hne]; simp [hne]
    · obtain ⟨E1, hs1, hw1, hj1⟩ := h.pot
      obtain ⟨E2, hs2, hw2, hj2⟩ := prim_step w n (jd J) E1 q.1 q.2 g1 g2 hsym (fun e he => hE e (hs1 e he)) hj1 (fun x s hx hs hJx hJs => g5 x s hx hs hJx hJs)
      refine ⟨E2, fun e he => hs1 e (hs2 e he), by dsimp only at hw1 ⊢; omega, fun u hu => ?_⟩
      have : jd (J.set q.1 true) = fun y => jd J y || decide (y = q.1) := funext hjs
      dsimp only; rw [this]; exact hj2 u hu

theorem slices_Repeat_one (x : Int) (n : Nat) (h : n ≤ 1048576) : slices_Repeat_int_int.f [x] (n : Int) = some (List.replicate n x) := by
  simp only [slices_Repeat_int_int.f]; rw [if_pos (by omega), toNat_nat]

def spotW (l : List S81) (i k : Nat) : Int := wayOf (rd_T81 l i).f0 (rd_T81 l i).f1 (rd_T81 l k).f0 (rd_T81 l k).f1
theorem stops_ok {l : List S81} (h : stopsOk l = true) : (1 ≤ l.length ∧ l.length ≤ 7) ∧ ∀ i : Nat, i < l.length → spotOk (rd_T81 l i).f0 (rd_T81 l i).f1 = true := by
  simp only [stopsOk, Bool.and_eq_true, decide_eq_true_eq, List.all_eq_true] at h
  exact ⟨h.1, fun i hi => by rw [rd_spot l i hi]; exact h.2 _ (List.getElem_mem hi)⟩
theorem spotW_comm (l : List S81) (i k : Nat) : spotW l i k = spotW l k i := wayOf_comm _ _ _ _
theorem spotW_bounds {l : List S81} (h : stopsOk l = true) {i k : Nat} (hi : i < l.length) (hk : k < l.length) : 0 ≤ spotW l i k ∧ spotW l i k ≤ 47 :=
  wayOf_bounds ((stops_ok h).2 i hi) ((stops_ok h).2 k hk)
def en1 : Option (Nat × Nat) → Int
  | none => -1
  | some q => q.1
def en2 : Option (Nat × Nat) → Int
  | none => -1
  | some q => q.2
theorem updP_lt {w : Nat → Nat → Int} {J : Nat → Bool} {n i j : Nat} {p : Option (Nat × Nat)} (hp : ∀ q, p = some q → q.1 < n ∧ q.2 < n) (hi : i < n) (hj : j ≤ n) (q : Nat × Nat) (h : updP w J i p (nearUp w J i j) = some q) : q.1 < n ∧ q.2 < n := by
  unfold updP at h
  split at h
  · exact hp q h
  · cases hn : nearUp w J i j with
    | none => rw [hn] at h; exact hp q h
    | some m =>
      have := (nearUp_some hn).1
      rw [hn] at h; dsimp only at h
      cases p with
      | none => injection h with h; subst h; exact ⟨hi, by dsimp only; omega⟩
      | some q2 =>
        dsimp only at h
        split at h
        · injection h with h; subst h; exact ⟨hi, by dsimp only; omega⟩
        · exact hp q h
theorem impl_tree_l2 {l : List S81} (hl : stopsOk l = true) (J : List Bool) (hJ : J.length = l.length) (i : Nat) (hi : i < l.length) (out : List Int) (sm a b : Int) (p : Option (Nat × Nat)) (hp : ∀ q, p = some q → q.1 < l.length ∧ q.2 < l.length) (r : List Int × Int)
    (hnext : Ev (fun k => impl_tree.l1 k l out sm J (en1 (updP (spotW l) (jd J) i p (nearUp (spotW l) (jd J) i l.length))) (en2 (updP (spotW l) (jd J) i p (nearUp (spotW l) (jd J) i l.length))) a b (l.length : Int) ((i + 1 : Nat) : Int)) r) :
    Ev (fun k => impl_tree.l2 k l out sm J (en1 p) (en2 p) (i : Int) a b (l.length : Int) (i : Int) (l.length : Int) 0) r := by
  have hn := (stops_ok hl).1
  have key := ev_up l.length (fun k j => impl_tree.l2 k l out sm J (en1 (updP (spotW l) (jd J) i p (nearUp (spotW l) (jd J) i j))) (en2 (updP (spotW l) (jd J) i p (nearUp (spotW l) (jd J) i j))) (i : Int) a b (l.length : Int) (i : Int) (l.length : Int) (j : Int)) r (fun _ => True) trivial ?_ ?_
  · have e : updP (spotW l) (jd J) i p (nearUp (spotW l) (jd J) i 0) = p := by unfold updP nearUp; split <;> rfl
    rw [e] at key; exact key
  · intro _
    refine Ev.succ ?_
    simp only [impl_tree.l2]
    refine Ev.neg (by omega) ?_
    rw [w64n hi (by omega)]; exact hnext
  · intro j hj _ hnx
    have hnx := hnx trivial
    refine Ev.succ ?_
    simp only [impl_tree.l2]
    refine Ev.pos (by omega) (Ev.pos (by omega) (Ev.pos (by omega) ?_))
    rw [w64n hj (by omega)]
    have ei : rdOf false J (i : Int) = jd J i := rfl
    have ej : rdOf false J (j : Int) = jd J j := rfl
    rw [ei, ej]
    cases hJi : jd J i with
    | true =>
      have e : ∀ m, updP (spotW l) (jd J) i p m = p := fun m => by unfold updP; rw [if_pos hJi]
      rw [e] at hnx ⊢
      exact Ev.pos rfl hnx
    | false =>
      refine Ev.neg (by simp) (Ev.pos (by omega) (Ev.pos (by omega) ?_))
      cases hJj : jd J j with
      | false => rw [updP_skip _ _ _ _ _ hJj] at hnx; exact Ev.neg (by simp) hnx
      | true =>
        refine Ev.pos rfl ?_
        rw [updP_step _ _ _ _ _ hJi hJj] at hnx
        cases hc : updP (spotW l) (jd J) i p (nearUp (spotW l) (jd J) i j) with
        | none => rw [hc] at hnx; exact Ev.pos (by simp [en1]) hnx
        | some q =>
          rw [hc] at hnx
          have hq := updP_lt hp hi (Nat.le_of_lt hj) q hc
          have s1 := (stops_ok hl).2 i hi
          have s2 := (stops_ok hl).2 j hj
          have s3 := (stops_ok hl).2 q.1 hq.1
          have s4 := (stops_ok hl).2 q.2 hq.2
          simp only [en1, en2]
          refine Ev.neg (by omega) (Ev.pos (by omega) (Ev.pos (by omega) (Ev.bind0 (impl_way_eq s1 s2) (Ev.pos (by omega) (Ev.pos (by omega) (Ev.pos (by omega) (Ev.pos (by omega) (Ev.bind0 (impl_way_eq s3 s4) ?_))))))))
          have e : (spotW l i j < spotW l q.1 q.2) = (wayOf (rd_T81 l i).f0 (rd_T81 l i).f1 (rd_T81 l j).f0 (rd_T81 l j).f1 < wayOf (rd_T81 l q.1).f0 (rd_T81 l q.1).f1 (rd_T81 l q.2).f0 (rd_T81 l q.2).f1) := rfl
          refine Ev.ite (fun h => ?_) (fun h => ?_)
          · rw [← e] at h; dsimp only at hnx; rw [if_pos h] at hnx; exact hnx
          · rw [← e] at h; dsimp only at hnx; rw [if_neg h] at hnx; exact hnx
theorem impl_tree_l1 {l : List S81} (hl : stopsOk l = true) (J : List Bool) (hJ : J.length = l.length) (out : List Int) (hout : out.length = l.length) (sm a : Int) (t : Nat) (q : Nat × Nat) (hq : pickUp (spotW l) (jd J) l.length l.length = some q) (hsm : 0 ≤ sm ∧ sm ≤ 1000) (ht : t ≤ 100) (r : List Int × Int)
    (hnext : Ev (fun k => impl_tree.l0 k l (out.set q.1 (q.2 : Int)) (sm + spotW l q.1 q.2) (J.set q.1 true) a ((t + 1 : Nat) : Int)) r) :
    Ev (fun k => impl_tree.l1 k l out sm J (-1) (-1) a (t : Int) (l.length : Int) 0) r := by
  have hn := (stops_ok hl).1
  have hlt : ∀ i, i ≤ l.length → ∀ p, pickUp (spotW l) (jd J) l.length i = some p → p.1 < l.length ∧ p.2 < l.length := fun i hi p hp => by
    obtain ⟨h1, _, h3, _⟩ := pickUp_some hp; exact ⟨by omega, h3⟩
  refine ev_up l.length (fun k i => impl_tree.l1 k l out sm J (en1 (pickUp (spotW l) (jd J) l.length i)) (en2 (pickUp (spotW l) (jd J) l.length i)) a (t : Int) (l.length : Int) (i : Int)) r (fun _ => True) trivial ?_ ?_
  · intro _
    have h := hlt _ (Nat.le_refl _) q hq
    have s1 := (stops_ok hl).2 q.1 h.1
    have s2 := (stops_ok hl).2 q.2 h.2
    have b := spotW_bounds hl h.1 h.2
    refine Ev.succ ?_
    simp only [impl_tree.l1]
    rw [hq]; simp only [en1, en2]
    refine Ev.neg (by omega) (Ev.pos (by omega) (Ev.pos (by omega) (Ev.pos (by omega) (Ev.pos (by omega) (Ev.pos (by omega) (Ev.pos (by omega) (Ev.bind0 (impl_way_eq s1 s2) ?_)))))))
    have e : wayOf (rd_T81 l q.1).f0 (rd_T81 l q.1).f1 (rd_T81 l q.2).f0 (rd_T81 l q.2).f1 = spotW l q.1 q.2 := rfl
    rw [toNat_nat, e, w64 (x := sm + _) (by omega) (by omega), w64 (by omega) (by omega)]
    exact hnext
  · intro i hi _ hnx
    refine Ev.succ ?_
    simp only [impl_tree.l1]
    refine Ev.pos (by omega) (impl_tree_l2 hl J hJ i hi out sm a t _ (hlt i (by omega)) r ?_)
    rw [← pickUp_succ]; exact hnx trivial
theorem prim_pick {w : Nat → Nat → Int} {n : Nat} {E : List (Nat × Nat)} {t : Nat} (h : PrimOk w n E t (primSt w n t)) (ht : t + 1 < n) : ∃ q, pickUp w (jd (primSt w n t).2.2) n n = some q ∧ q.1 < n ∧ q.2 < n ∧ primSt w n (t + 1) = ((primSt w n t).1.set q.1 (q.2 : Int), (primSt w n t).2.1 + w q.1 q.2, (primSt w n t).2.2.set q.1 true) := by
  obtain ⟨x, hx, hJx⟩ := exists_false (primSt w n t).2.2 (by rw [h.cnt, h.l2]; omega)
  obtain ⟨q, hq⟩ := pickUp_ex (w := w) (J := jd (primSt w n t).2.2) (n := n) (i := n) (x := x) (s := 0) (by have := h.l2; omega) hJx (by omega) h.j0
  obtain ⟨g1, _, g3, _⟩ := pickUp_some hq
  exact ⟨q, hq, g1, g3, by conv => lhs; unfold primSt
                           rw [hq]⟩
def starE (n k : Nat) : List (Nat × Nat) := (List.range n).map fun i => (k, i)
theorem starE_lt {n k : Nat} (hk : k < n) (e : Nat × Nat) (he : e ∈ starE n k) : e.1 < n ∧ e.2 < n := by
  simp only [starE, List.mem_map, List.mem_range] at he
  obtain ⟨i, hi, rfl⟩ := he
  exact ⟨hk, hi⟩
theorem starE_jn {n k : Nat} (hk : k < n) (u : Nat) (hu : u < n) : Jn (starE n k) (fun u => decide (u = 0)) u := by
  have hm : ∀ i, i < n → (k, i) ∈ starE n k := fun i hi => by simp only [starE, List.mem_map, List.mem_range]; exact ⟨i, hi, rfl⟩
  have h0 : Jn (starE n k) (fun u => decide (u = 0)) k := Jn.step (v := 0) (.inl (hm 0 (by omega))) (Jn.base (by simp))
  exact Jn.step (v := k) (.inr (hm u hu)) h0
theorem spot_prim {l : List S81} (hl : stopsOk l = true) (k : Nat) (hk : k < l.length) (t : Nat) (ht : t < l.length) : PrimOk (spotW l) l.length (starE l.length k) t (primSt (spotW l) l.length t) :=
  prim_ok (spotW l) l.length _ (by omega) (spotW_comm l) (starE_lt hk) (starE_jn hk) t ht
theorem prim_sum {l : List S81} (hl : stopsOk l = true) (t : Nat) (ht : t < l.length) : 0 ≤ (primSt (spotW l) l.length t).2.1 ∧ (primSt (spotW l) l.length t).2.1 ≤ 400 := by
  have hn := (stops_ok hl).1
  have h := spot_prim hl 0 (by omega) t ht
  rw [h.sum]
  have := sumTo_bounds (f := fun i => if jd (primSt (spotW l) l.length t).2.2 i = true ∧ i ≠ 0 then spotW l i (rd (primSt (spotW l) l.length t).1 i).toNat else 0) (n := l.length) (lo := 0) (hi := 47) (fun i hi => by
    split
    · rename_i hh
      have hu := h.up i hi hh.2 hh.1
      exact spotW_bounds hl hi (by omega)
    · omega)
  omega
def treeOf (l : List S81) : List Int × Int := ((primSt (spotW l) l.length (l.length - 1)).1, (primSt (spotW l) l.length (l.length - 1)).2.1)
theorem impl_tree_ev {l : List S81} (hl : stopsOk l = true) : Ev (fun k => impl_tree.f k l) (treeOf l) := by
  have hn := (stops_ok hl).1
  unfold impl_tree.f
  refine Ev.bind0 (slices_Repeat_one (-1) l.length (by omega)) (Ev.pos (by omega) (Ev.pos (by omega) (Ev.bind0 rfl (Ev.pos (by simp; omega) ?_))))
  rw [w64 (by omega) (by omega), toNat_nat]
  have e0 : ((0 : Int)).toNat = 0 := rfl
  rw [e0]
  refine ev_up (l.length - 1) (fun k t => impl_tree.l0 k l (primSt (spotW l) l.length t).1 (primSt (spotW l) l.length t).2.1 (primSt (spotW l) l.length t).2.2 ((l.length : Int) - 1) (t : Int)) _ (fun _ => True) trivial ?_ ?_
  · intro _
    refine Ev.succ ?_
    simp only [impl_tree.l0]
    exact Ev.neg (by omega) (Ev.now _)
  · intro t ht _ hnx
    have h := spot_prim hl 0 (by omega) t (by omega)
    obtain ⟨q, hq, q1, q2, hs⟩ := prim_pick h (by omega)
    have hb := prim_sum hl t (by omega)
    refine Ev.succ ?_
    simp only [impl_tree.l0]
    refine Ev.pos (by omega) (impl_tree_l1 hl _ h.l2 _ h.l1 _ _ t q hq (by omega) (by omega) _ ?_)
    have := hnx trivial
    rw [hs] at this; exact this
theorem impl_TreeOf_ev (l : List S81) (h : l.length ≤ 1048576) : Ev (fun k => impl_TreeOf.f k l) (if stopsOk l = true then ((treeOf l).1, (treeOf l).2, true) else ([], 0, false)) := by
  unfold impl_TreeOf.f
  refine Ev.bind (impl_GoodStops_ev l h) (Ev.ite (fun hl => ?_) (fun hl => ?_))
  · rw [if_pos hl]; exact Ev.bind (impl_tree_ev hl) (Ev.now _)
  · rw [if_neg hl]; exact Ev.now _

def enO : Option Nat → Int
  | none => -1
  | some m => m
def en2z : Option (Nat × Nat) → Int
  | none => 0
  | some q => q.2
theorem spec_near_ev {l : List S81} (hl : stopsOk l = true) (J : List Bool) (inn : List Int) (hin : ∀ m : Nat, m < l.length → decide ((m : Int) ∈ inn) = jd J m) (hil : inn.length ≤ 100) (i : Nat) (hi : i < l.length) :
    Ev (fun k => spec_l11Near.f k l inn (i : Int)) (enO (nearUp (spotW l) (jd J) i l.length)) := by
  have hn := (stops_ok hl).1
  unfold spec_l11Near.f
  refine ev_up l.length (fun k j => spec_l11Near.l0 k l inn (i : Int) (enO (nearUp (spotW l) (jd J) i j)) (l.length : Int) (j : Int)) _ (fun _ => True) trivial ?_ ?_
  · intro _
    refine Ev.succ ?_
    simp only [spec_l11Near.l0]; exact Ev.neg (by omega) (Ev.now _)
  · intro j hj _ hnx
    have hnx := hnx trivial
    refine Ev.succ ?_
    simp only [spec_l11Near.l0]
    refine Ev.pos (by omega) (Ev.bind (spec_l1Has_ev inn j (by omega)) ?_)
    rw [w64n hj (by omega), hin j hj]
    rw [nearUp_succ] at hnx
    cases hJ : jd J j with
    | false =>
      refine Ev.neg (by simp) ?_
      cases hm : nearUp (spotW l) (jd J) i j with
      | none => rw [hm] at hnx; dsimp only at hnx; rw [if_neg (by simp [hJ])] at hnx; exact hnx
      | some m => rw [hm] at hnx; dsimp only at hnx; rw [if_neg (by simp [hJ])] at hnx; exact hnx
    | true =>
      refine Ev.pos rfl ?_
      cases hm : nearUp (spotW l) (jd J) i j with
      | none => rw [hm] at hnx; dsimp only at hnx; rw [if_pos hJ] at hnx; exact Ev.pos (by simp [enO]) hnx
      | some m =>
        rw [hm] at hnx; dsimp only at hnx
        have hmj := (nearUp_some hm).1
        have s1 := (stops_ok hl).2 i hi
        have s2 := (stops_ok hl).2 j hj
        have s3 := (stops_ok hl).2 m (by omega)
        simp only [enO]
        refine Ev.neg (by omega) (Ev.pos (by omega) (Ev.pos (by omega) (Ev.pos (by omega) (Ev.pos (by omega) (Ev.bind0 (spec_l11Way_eq s1 s2) (Ev.pos (by omega) (Ev.pos (by omega) (Ev.bind0 (spec_l11Way_eq s1 s3) ?_))))))))
        refine Ev.ite (fun h => ?_) (fun h => ?_)
        · rw [if_pos ⟨hJ, h⟩] at hnx; exact hnx
        · rw [if_neg (fun h2 => h h2.2)] at hnx; exact hnx
theorem spec_tree_l2 {l : List S81} (hl : stopsOk l = true) (J : List Bool) (inn out : List Int) (hin : ∀ m : Nat, m < l.length → decide ((m : Int) ∈ inn) = jd J m) (hil : inn.length ≤ 100) (hout : out.length = l.length) (h0 : jd J 0 = true)
    (sm : Int) (hsm : 0 ≤ sm ∧ sm ≤ 1000) (q : Nat × Nat) (hq : pickUp (spotW l) (jd J) l.length l.length = some q) (r : List Int × Int)
    (hnext : Ev (fun k => spec_l11Tree.l1 k l (out.set q.1 (q.2 : Int)) (inn ++ [(q.1 : Int)]) (sm + spotW l q.1 q.2)) r) :
    Ev (fun k => spec_l11Tree.l2 k l out inn sm (-1) 0 (l.length : Int) 0) r := by
  have hn := (stops_ok hl).1
  have hlt : ∀ i, i ≤ l.length → ∀ p, pickUp (spotW l) (jd J) l.length i = some p → p.1 < l.length ∧ p.2 < l.length := fun i hi p hp => by
    obtain ⟨h1, _, h3, _⟩ := pickUp_some hp; exact ⟨by omega, h3⟩
  refine ev_up l.length (fun k i => spec_l11Tree.l2 k l out inn sm (en1 (pickUp (spotW l) (jd J) l.length i)) (en2z (pickUp (spotW l) (jd J) l.length i)) (l.length : Int) (i : Int)) r (fun _ => True) trivial ?_ ?_
  · intro _
    have h := hlt _ (Nat.le_refl _) q hq
    have s1 := (stops_ok hl).2 q.1 h.1
    have s2 := (stops_ok hl).2 q.2 h.2
    have b := spotW_bounds hl h.1 h.2
    refine Ev.succ ?_
    simp only [spec_l11Tree.l2]
    rw [hq]; simp only [en1, en2z]
    refine Ev.neg (by omega) (Ev.pos (by omega) (Ev.pos (by omega) (Ev.pos (by omega) (Ev.pos (by omega) (Ev.pos (by omega) (Ev.bind0 (spec_l11Way_eq s1 s2) (Ev.pos (by omega) ?_)))))))
    have e : wayOf (rd_T81 l q.1).f0 (rd_T81 l q.1).f1 (rd_T81 l q.2).f0 (rd_T81 l q.2).f1 = spotW l q.1 q.2 := rfl
    rw [toNat_nat, e, w64 (x := sm + _) (by omega) (by omega)]
    exact hnext
  · intro i hi _ hnx
    have hnx := hnx trivial
    refine Ev.succ ?_
    simp only [spec_l11Tree.l2]
    refine Ev.pos (by omega) (Ev.bind (spec_l1Has_ev inn i (by omega)) ?_)
    rw [w64n hi (by omega), hin i hi]
    rw [pickUp_succ] at hnx
    cases hJ : jd J i with
    | true =>
      refine Ev.pos rfl ?_
      unfold updP at hnx; rw [if_pos hJ] at hnx; exact hnx
    | false =>
      obtain ⟨m, hm⟩ := nearUp_ex (w := spotW l) (i := i) (show 0 < l.length by omega) h0
      have hmn := (nearUp_some hm).1
      refine Ev.neg (by simp) (Ev.bind (spec_near_ev hl J inn hin hil i hi) ?_)
      rw [hm] at hnx ⊢
      unfold updP at hnx; rw [if_neg (by simp [hJ])] at hnx; dsimp only at hnx
      cases hp : pickUp (spotW l) (jd J) l.length i with
      | none => rw [hp] at hnx; exact Ev.pos (by simp [en1]) hnx
      | some p =>
        rw [hp] at hnx; dsimp only at hnx
        have h := hlt i (by omega) p hp
        have s1 := (stops_ok hl).2 i hi
        have s2 := (stops_ok hl).2 m hmn
        have s3 := (stops_ok hl).2 p.1 h.1
        have s4 := (stops_ok hl).2 p.2 h.2
        simp only [en1, en2z, enO]
        refine Ev.neg (by omega) (Ev.pos (by omega) (Ev.pos (by omega) (Ev.pos (by omega) (Ev.pos (by omega) (Ev.bind0 (spec_l11Way_eq s1 s2) (Ev.pos (by omega) (Ev.pos (by omega) (Ev.pos (by omega) (Ev.pos (by omega) (Ev.bind0 (spec_l11Way_eq s3 s4) ?_))))))))))
        refine Ev.ite (fun hc => ?_) (fun hc => ?_)
        · rw [if_pos (show spotW l i m < spotW l p.1 p.2 from hc)] at hnx; exact hnx
        · rw [if_neg (show ¬ spotW l i m < spotW l p.1 p.2 from hc)] at hnx; exact hnx
theorem spec_tree_ev {l : List S81} (hl : stopsOk l = true) : Ev (fun k => spec_l11Tree.f k l) (treeOf l) := by
  have hn := (stops_ok hl).1
  unfold spec_l11Tree.f
  refine Ev.pos (by omega) (Ev.pos (by omega) (Ev.bind0 rfl ?_))
  rw [toNat_nat, List.length_replicate]
  have fill := ev_up l.length (fun k i => spec_l11Tree.l0 k l (List.replicate i (-1) ++ List.replicate (l.length - i) 0) (l.length : Int) (i : Int)) (treeOf l) (fun _ => True) trivial ?_ ?_
  · simpa using fill
  · intro _
    refine Ev.succ ?_
    simp only [spec_l11Tree.l0]
    refine Ev.neg (by omega) ?_
    rw [Nat.sub_self, List.replicate_zero, List.append_nil]
    have run : ∀ d t, t + d + 1 = l.length → ∀ inn : List Int, inn.length = t + 1 → (∀ m : Nat, m < l.length → decide ((m : Int) ∈ inn) = jd (primSt (spotW l) l.length t).2.2 m) →
        Ev (fun k => spec_l11Tree.l1 k l (primSt (spotW l) l.length t).1 inn (primSt (spotW l) l.length t).2.1) (treeOf l) := by
      intro d
      induction d with
      | zero =>
        intro t ht inn hil _
        obtain rfl : t = l.length - 1 := by omega
        refine Ev.succ ?_
        simp only [spec_l11Tree.l1]; exact Ev.neg (by omega) (Ev.now _)
      | succ d ih =>
        intro t ht inn hil hin
        have h := spot_prim hl 0 (by omega) t (by omega)
        obtain ⟨q, hq, q1, q2, hs⟩ := prim_pick h (by omega)
        have hb := prim_sum hl t (by omega)
        refine Ev.succ ?_
        simp only [spec_l11Tree.l1]
        refine Ev.pos (by omega) (spec_tree_l2 hl _ inn _ hin (by omega) h.l1 h.j0 _ (by omega) q hq _ ?_)
        have := ih (t + 1) (by omega) (inn ++ [(q.1 : Int)]) (by simp; omega) (fun m hm => ?_)
        · rw [hs] at this; exact this
        · rw [hs]; dsimp only
          rw [jd_set _ _ _ (by rw [h.l2]; exact q1), ← hin m hm, ← Bool.decide_or, decide_eq_decide, List.mem_append, List.mem_singleton]; exact or_congr Iff.rfl (by omega)
    have := run (l.length - 1) 0 (by omega) [0] rfl (fun m hm => by
      have h := spot_prim hl 0 (by omega) 0 (by omega)
      have : jd (primSt (spotW l) l.length 0).2.2 m = decide (m = 0) := by
        unfold primSt; dsimp only
        rw [jd_set _ _ _ (by simp; omega)]
        have : jd (List.replicate l.length false) m = false := by
          simp only [jd, rdOf, toNat_nat, List.getD_eq_getElem?_getD, List.getElem?_replicate]; split <;> rfl
        rw [this]; simp
      rw [this, decide_eq_decide, List.mem_singleton]; omega)
    exact this
  · intro i hi _ hnx
    refine Ev.succ ?_
    simp only [spec_l11Tree.l0]
    refine Ev.pos (by omega) (Ev.pos (by omega) (Ev.pos (by simp; omega) ?_))
    rw [toNat_nat, w64n hi (by omega)]
    have e : (List.replicate i (-1 : Int) ++ List.replicate (l.length - i) 0).set i (-1) = List.replicate (i + 1) (-1) ++ List.replicate (l.length - (i + 1)) 0 := by
      rw [List.set_append_right _ _ (by simp), List.length_replicate, Nat.sub_self, show l.length - i = (l.length - (i + 1)) + 1 by omega, List.replicate_succ, List.set_cons_zero, List.replicate_succ', List.append_assoc]; rfl
    rw [e]; exact hnx trivial
theorem spec_TreeOf_ev (l : List S81) (h : l.length ≤ 1048576) : Ev (fun k => spec_TreeOf.f k l) (if stopsOk l = true then ((treeOf l).1, (treeOf l).2, true) else ([], 0, false)) := by
  unfold spec_TreeOf.f
  refine Ev.bind (spec_GoodStops_ev l h) (Ev.ite (fun hl => ?_) (fun hl => ?_))
  · rw [if_pos hl]; exact Ev.bind (spec_tree_ev hl) (Ev.now _)
  · rw [if_neg hl]; exact Ev.now _

end Go.Proofs.Ytagkblgpaallbaa.Pure
namespace Go.Proofs.Ytagkblgpaallbaa.Pure
open Go.RowKit Go.Proofs.Ytagkblgpaallbaa.Print Go.Proofs.YtagkblgpaallbaaW.PrintWords Go.Proofs.YtagkblgpaallbaaW.PrintLast Go.Proofs.YtagkblgpaallbaaW.PrintMore

theorem laws_numberOf_ev (l : List Int) (hb : bytesOk l) (hl : l.length ≤ 1048576) : ∃ r, Ev (fun k => laws_numberOf.f k l) r ∧ 0 ≤ r ∧ r < 1000003 := by
  unfold laws_numberOf.f
  have gen : ∀ (d i : Nat) (x : Int), i + d = l.length → 0 ≤ x ∧ x < 1000003 → ∃ r, Ev (fun k => laws_numberOf.l0 k x l (l.length : Int) (i : Int)) r ∧ 0 ≤ r ∧ r < 1000003 := by
    intro d
    induction d with
    | zero =>
      intro i x hi hx
      refine ⟨x, Ev.succ ?_, hx⟩
      simp only [laws_numberOf.l0]; exact Ev.neg (by omega) (Ev.now _)
    | succ d ih =>
      intro i x hi hx
      have hi' : i < l.length := by omega
      have hbx := hb l[i] (List.getElem_mem hi')
      have h1 := Int.tmod_nonneg 1000003 (show 0 ≤ 31 * x + l[i] by omega)
      have h2 := Int.tmod_lt_of_pos (31 * x + l[i]) (show (0 : Int) < 1000003 by omega)
      obtain ⟨r, hr, hb2⟩ := ih (i + 1) (Int.tmod (31 * x + l[i]) 1000003) (by omega) ⟨h1, h2⟩
      refine ⟨r, Ev.succ ?_, hb2⟩
      simp only [laws_numberOf.l0]
      refine Ev.pos (by omega) (Ev.pos (by omega) (Ev.pos (by omega) ?_))
      rw [rd_nat l i hi', w64n hi' (by omega), w64 (x := 31 * x) (by omega) (by omega), w64 (x := l[i]) (by omega) (by omega), w64 (by omega) (by omega)]
      exact hr
  simpa using gen l.length 0 0 (by omega) (by omega)

theorem laws_sameInts_ev (a b : List Int) (hl : a.length ≤ 4611686018427387904) : Ev (fun k => laws_sameInts.f k a b) (decide (a = b)) := by
  unfold laws_sameInts.f
  refine Ev.ite (fun h => ?_) (fun h => ?_)
  · have hlen : a.length = b.length := by omega
    have gen : ∀ (d i : Nat), i + d = a.length → Ev (fun k => laws_sameInts.l0 k a b (a.length : Int) (i : Int)) (decide (a.drop i = b.drop i)) := by
      intro d
      induction d with
      | zero =>
        intro i hi
        rw [List.drop_of_length_le (by omega), List.drop_of_length_le (by omega)]
        refine Ev.succ ?_
        simp only [laws_sameInts.l0]; exact Ev.neg (by omega) (by simpa using Ev.now true)
      | succ d ih =>
        intro i hi
        have hi' : i < a.length := by omega
        have hi2 : i < b.length := by omega
        rw [List.drop_eq_getElem_cons hi', List.drop_eq_getElem_cons hi2]
        refine Ev.succ ?_
        simp only [laws_sameInts.l0]
        refine Ev.pos (by omega) (Ev.pos (by omega) (Ev.pos (by omega) (Ev.pos (by omega) ?_)))
        rw [rd_nat a i hi', rd_nat b i hi2, w64n hi' (by omega)]
        refine Ev.ite (fun h => ?_) (fun h => ?_)
        · have e : decide (a[i] :: a.drop (i + 1) = b[i] :: b.drop (i + 1)) = decide (a.drop (i + 1) = b.drop (i + 1)) := by
            rw [decide_eq_decide, h]; exact ⟨fun h => (List.cons.inj h).2, fun h => by rw [h]⟩
          rw [e]; exact ih (i + 1) (by omega)
        · have e : decide (a[i] :: a.drop (i + 1) = b[i] :: b.drop (i + 1)) = false := by
            rw [decide_eq_false_iff_not]; intro h2; injection h2 with h3; exact h h3
          rw [e]; exact Ev.now _
    simpa using gen a.length 0 (by omega)
  · have e : decide (a = b) = false := by rw [decide_eq_false_iff_not]; rintro rfl; exact h rfl
    rw [e]; exact Ev.now _
theorem laws_same_ev (a : List Int) (hl : a.length ≤ 4611686018427387904) : Ev (fun k => laws_sameInts.f k a a) true := Ev.to (laws_sameInts_ev a a hl) (by simp)

theorem spec_DrawOnWay_ex (l : List Int) (hl : bytesOk l) : ∃ a b c d e f, spec_DrawOnWay.f l = some (a, b, c, d, e, f) := by
  unfold spec_DrawOnWay.f
  obtain ⟨a, b, x1, s1, e1, h1⟩ := cur_spot l 0 0 hl (by omega)
  obtain ⟨c, d, x2, s2, e2, h2⟩ := cur_spot l x1 s1 hl (by omega)
  obtain ⟨e, f, x3, s3, e3, h3⟩ := cur_spot l x2 s2 hl (by omega)
  exact ⟨a, b, c, d, e, f, by simp only [e1, e2, e3, Option.bind_some]⟩
theorem spec_DrawWayBetween_ex (l : List Int) (hl : bytesOk l) : ∃ a b c d, spec_DrawWayBetween.f l = some (a, b, c, d) := by
  unfold spec_DrawWayBetween.f
  obtain ⟨a, b, x1, s1, e1, h1⟩ := cur_spot l 0 0 hl (by omega)
  obtain ⟨c, d, x2, s2, e2, h2⟩ := cur_spot l x1 s1 hl (by omega)
  exact ⟨a, b, c, d, by simp only [e1, e2, Option.bind_some]⟩

theorem sumW_star (w : Nat → Nat → Int) (n k : Nat) : sumW w (starE n k) = sumTo (fun i => w k i) n := by
  induction n with
  | zero => rfl
  | succ n ih =>
    have : starE (n + 1) k = starE n k ++ [(k, n)] := by simp [starE, List.range_succ]
    rw [this, sumTo, ← ih]; simp [sumW]
theorem treeOf_star {l : List S81} (hl : stopsOk l = true) (k : Nat) (hk : k < l.length) : (treeOf l).2 ≤ sumTo (fun i => spotW l k i) l.length := by
  have hn := (stops_ok hl).1
  obtain ⟨E, h1, h2, _⟩ := (spot_prim hl k hk (l.length - 1) (by omega)).pot
  have h3 := sumW_nonneg (spotW l) E (fun e he => by have := starE_lt hk e (h1 e he); exact (spotW_bounds hl this.1 this.2).1)
  rw [sumW_star] at h2
  unfold treeOf; dsimp only; omega
theorem treeOf_sum {l : List S81} (hl : stopsOk l = true) : (treeOf l).1.length = l.length ∧ rd (treeOf l).1 0 = -1 ∧ (∀ i : Nat, i < l.length → i ≠ 0 → 0 ≤ rd (treeOf l).1 i ∧ rd (treeOf l).1 i < l.length) ∧
    (treeOf l).2 = sumTo (fun i => if i = 0 then 0 else spotW l (rd (treeOf l).1 i).toNat i) l.length := by
  have hn := (stops_ok hl).1
  have h := spot_prim hl 0 (by omega) (l.length - 1) (by omega)
  have hall : ∀ i, i < l.length → jd (primSt (spotW l) l.length (l.length - 1)).2.2 i = true := fun i hi => by
    have hc := List.count_eq_length.mp (show (primSt (spotW l) l.length (l.length - 1)).2.2.count true = _ from by rw [h.cnt, h.l2]; omega)
    have hi2 : i < (primSt (spotW l) l.length (l.length - 1)).2.2.length := by rw [h.l2]; exact hi
    rw [jd_get _ _ hi2]; exact (hc _ (List.getElem_mem hi2)).symm
  refine ⟨h.l1, h.o0, fun i hi h0 => by have := h.up i hi h0 (hall i hi); exact ⟨this.1, this.2.1⟩, ?_⟩
  refine h.sum.trans (sumTo_congr fun i hi => ?_)
  by_cases h0 : i = 0
  · rw [if_pos h0, if_neg (fun h => h.2 h0)]
  · rw [if_neg h0, if_pos ⟨hall i hi, h0⟩, spotW_comm]; rfl

end Go.Proofs.Ytagkblgpaallbaa.Pure
namespace Go.Proofs.Ytagkblgpaallbaa.Pure
open Go.RowKit Go.Proofs.Ytagkblgpaallbaa.Print Go.Proofs.YtagkblgpaallbaaW.PrintWords Go.Proofs.YtagkblgpaallbaaW.PrintLast Go.Proofs.YtagkblgpaallbaaW.PrintMore

theorem trees_all {l : List S81} (hl : stopsOk l = true) (star : Int) (hs : (treeOf l).2 ≤ star) :
    Ev (fun k => laws_FnTrees.l1 k l (treeOf l).2 star 0 (treeOf l).1 ((treeOf l).1.length : Int) 0) true := by
  obtain ⟨h1, h2, h3, h4⟩ := treeOf_sum hl
  have hn := (stops_ok hl).1
  have hb : ∀ i, i ≤ l.length → 0 ≤ sumTo (fun i => if i = 0 then 0 else spotW l (rd (treeOf l).1 i).toNat i) i ∧ sumTo (fun i => if i = 0 then 0 else spotW l (rd (treeOf l).1 i).toNat i) i ≤ 400 := fun i hi => by
    have := sumTo_bounds (f := fun i => if i = 0 then 0 else spotW l (rd (treeOf l).1 i).toNat i) (n := i) (lo := 0) (hi := 47) (fun j hj => by
      split
      · omega
      · rename_i h0
        have := h3 j (by omega) h0
        exact spotW_bounds hl (by omega) (by omega))
    omega
  rw [h1]
  refine ev_up l.length (fun k i => laws_FnTrees.l1 k l (treeOf l).2 star (sumTo (fun i => if i = 0 then 0 else spotW l (rd (treeOf l).1 i).toNat i) i) (treeOf l).1 (l.length : Int) (i : Int)) true (fun _ => True) trivial ?_ ?_
  · intro _
    refine Ev.succ ?_
    simp only [laws_FnTrees.l1]
    refine Ev.neg (by omega) (Ev.pos hs (Ev.to (Ev.now _) ?_))
    rw [← h4]; simp
  · intro i hi _ hnx
    have hnx := hnx trivial
    refine Ev.succ ?_
    simp only [laws_FnTrees.l1]
    refine Ev.pos (by omega) (Ev.pos (by omega) (Ev.pos (by omega) ?_))
    rw [w64n hi (by omega)]
    rw [sumTo] at hnx
    by_cases h0 : i = 0
    · subst h0
      refine Ev.pos rfl (Ev.pos h2 ?_)
      simpa using hnx
    · rw [if_neg h0] at hnx
      have hu := h3 i hi h0
      have s1 := (stops_ok hl).2 (rd (treeOf l).1 i).toNat (by omega)
      have s2 := (stops_ok hl).2 i hi
      have e : (((rd (treeOf l).1 i).toNat : Nat) : Int) = rd (treeOf l).1 i := by omega
      rw [e] at s1
      have b1 := hb i (by omega)
      have ew : wayF (rd_T81 l (rd (treeOf l).1 i)).f0 (rd_T81 l (rd (treeOf l).1 i)).f1 (rd_T81 l i).f0 (rd_T81 l i).f1 = (spotW l (rd (treeOf l).1 i).toNat i, true) := by
        unfold wayF spotW; rw [if_pos ⟨s1, s2⟩, e]
      have b2 := spotW_bounds hl (show (rd (treeOf l).1 i).toNat < l.length by omega) hi
      refine Ev.neg (by omega) (Ev.pos (by omega) (Ev.pos (by omega) (Ev.pos (by omega) (Ev.bind0 ((impl_WayBetween_eq _ _ _ _).trans (congrArg some ew)) (Ev.pos rfl ?_)))))
      dsimp only
      rw [w64 (by omega) (by omega)]; exact hnx
theorem trees_star {l : List S81} (hl : stopsOk l = true) (k : Nat) (hk : k < l.length) : Ev (fun n => laws_FnTrees.l0 n l (treeOf l).1 (treeOf l).2 (k : Int) 0 (l.length : Int) 0) true := by
  have hn := (stops_ok hl).1
  have hb : ∀ i, i ≤ l.length → 0 ≤ sumTo (fun i => spotW l k i) i ∧ sumTo (fun i => spotW l k i) i ≤ 400 := fun i hi => by
    have := sumTo_bounds (f := fun i => spotW l k i) (n := i) (lo := 0) (hi := 47) (fun j hj => spotW_bounds hl hk (by omega))
    omega
  refine ev_up l.length (fun n i => laws_FnTrees.l0 n l (treeOf l).1 (treeOf l).2 (k : Int) (sumTo (fun i => spotW l k i) i) (l.length : Int) (i : Int)) true (fun _ => True) trivial ?_ ?_
  · intro _
    refine Ev.succ ?_
    simp only [laws_FnTrees.l0]
    exact Ev.neg (by omega) (trees_all hl _ (treeOf_star hl k hk))
  · intro i hi _ hnx
    have hnx := hnx trivial
    refine Ev.succ ?_
    simp only [laws_FnTrees.l0]
    have b1 := hb i (by omega)
    have b2 := spotW_bounds hl hk hi
    have ew : wayF (rd_T81 l k).f0 (rd_T81 l k).f1 (rd_T81 l i).f0 (rd_T81 l i).f1 = (spotW l k i, true) := by
      unfold wayF spotW; rw [if_pos ⟨(stops_ok hl).2 k hk, (stops_ok hl).2 i hi⟩]
    refine Ev.pos (by omega) (Ev.pos (by omega) (Ev.pos (by omega) (Ev.pos (by omega) (Ev.pos (by omega) (Ev.bind0 ((impl_WayBetween_eq _ _ _ _).trans (congrArg some ew)) (Ev.pos rfl ?_))))))
    dsimp only
    rw [w64n hi (by omega), w64 (by omega) (by omega)]
    rw [sumTo] at hnx; exact hnx
theorem trees_j1 (l0 l1 : List Int) (h0 : bytesOk l0) (h1 : bytesOk l1) (hl : l0.length ≤ 1048576) : Ev (fun k => laws_FnTrees.j1 k l0 l1) true := by
  refine Ev.succ ?_
  simp only [laws_FnTrees.j1]
  obtain ⟨a, b, c, d, e⟩ := spec_DrawWayBetween_ex l1 h1
  obtain ⟨r, hr, hrl⟩ := spec_DrawTreeOf_ev l1 h1
  refine Ev.bind0 e (Ev.bind0 (impl_WayBetween_eq a b c d) (Ev.bind0 (spec_WayBetween_eq a b c d) (Ev.bind hr (Ev.bind (impl_TreeOf_ev r (by omega)) (Ev.bind (spec_TreeOf_ev r (by omega)) ?_)))))
  simp only [bne_self_eq_false, Bool.false_eq_true, if_false, if_true]
  by_cases hs : stopsOk r = true
  · rw [if_pos hs]
    dsimp only
    obtain ⟨g1, _, _, _⟩ := treeOf_sum hs
    have hn := (stops_ok hs).1
    refine Ev.bind (laws_same_ev _ (by omega)) (Ev.pos rfl (Ev.succ ?_))
    simp only [laws_FnTrees.j2, Bool.false_eq_true, if_false, if_true]
    obtain ⟨n, hnum, n0, n1⟩ := laws_numberOf_ev l0 h0 hl
    have m0 := Int.tmod_nonneg (r.length : Int) n0
    have m1 := Int.tmod_lt_of_pos n (show (0 : Int) < r.length by omega)
    refine Ev.bind hnum (Ev.neg (by omega) ?_)
    have := trees_star hs (Int.tmod n r.length).toNat (by omega)
    rw [show (((Int.tmod n r.length).toNat : Nat) : Int) = Int.tmod n r.length by omega] at this
    exact this
  · rw [if_neg hs]
    dsimp only
    refine Ev.bind (laws_same_ev _ (by simp)) (Ev.pos rfl (Ev.succ ?_))
    simp only [laws_FnTrees.j2, Bool.false_eq_true, if_false]
    exact Ev.now _
theorem FnTrees : laws_FnTrees.Pure := by
  intro l0 l1 _ hl0 hw0 _ hl1 hw1
  have b0 := bytesOk_of l0 hw0
  have b1 := bytesOk_of l1 hw1
  refine Ev.rounds (g := fun k => laws_FnTrees.f k l0 l1) ?_
  unfold laws_FnTrees.f
  refine Ev.ite (fun _ => Ev.now _) fun hg => ?_
  rw [w64 (by omega) (by omega)] at hg
  obtain ⟨a, b, c, d, e, f, ed⟩ := spec_DrawOnWay_ex l0 b0
  refine Ev.bind0 ed (Ev.bind (impl_OnWay_ev a b c d e f) (Ev.bind (spec_OnWay_ev a b c d e f) ?_))
  simp only [bne_self_eq_false, Bool.false_eq_true, if_false]
  refine Ev.succ ?_
  simp only [laws_FnTrees.j0, Bool.false_eq_true, if_false]
  have hj := trees_j1 l0 l1 b0 b1 (by omega)
  unfold onWay
  by_cases hs : spotOk a b = true ∧ spotOk c d = true ∧ spotOk e f = true
  · rw [if_pos hs]
    obtain ⟨s1, s2, s3⟩ := hs
    have w1 : wayF a b c d = (wayOf a b c d, true) := by unfold wayF; rw [if_pos ⟨s1, s2⟩]
    have w2 : wayF c d a b = (wayOf a b c d, true) := by unfold wayF; rw [if_pos ⟨s2, s1⟩, wayOf_comm]
    have w3 : wayF c d e f = (wayOf c d e f, true) := by unfold wayF; rw [if_pos ⟨s2, s3⟩]
    have w4 : wayF a b e f = (wayOf a b e f, true) := by unfold wayF; rw [if_pos ⟨s1, s3⟩]
    have k1 := wayOf_bounds s1 s2
    have k2 := wayOf_bounds s2 s3
    have k3 := wayOf_bounds s1 s3
    have kt := wayOf_tri s1 s2 s3
    have kz := wayOf_zero s1 s2
    dsimp only
    refine Ev.pos rfl (Ev.bind0 ((impl_WayBetween_eq _ _ _ _).trans (congrArg some w1)) (Ev.bind0 ((impl_WayBetween_eq _ _ _ _).trans (congrArg some w2)) (Ev.bind0 ((impl_WayBetween_eq _ _ _ _).trans (congrArg some w3)) (Ev.bind0 ((impl_WayBetween_eq _ _ _ _).trans (congrArg some w4)) ?_))))
    dsimp only
    refine Ev.pos rfl (Ev.pos rfl (Ev.pos rfl (Ev.pos rfl (Ev.pos rfl (Ev.neg (by omega) ?_)))))
    rw [w64 (by omega) (by omega)]
    refine Ev.neg ?_ (Ev.neg (by omega) (Ev.neg ?_ hj))
    · rw [Bool.not_eq_true, bne_eq_false_iff_eq, Bool.eq_iff_iff, beq_iff_eq, kz, Bool.and_eq_true, beq_iff_eq, beq_iff_eq]
    · rw [Bool.not_eq_true, bne_eq_false_iff_eq, Bool.eq_iff_iff, beq_iff_eq, beq_iff_eq]; omega
  · rw [if_neg hs]
    exact Ev.neg (by simp) hj

end Go.Proofs.Ytagkblgpaallbaa.Pure
