/- No owners that fit travel less than the slots given out: every fraction over 2520. -/
import Derived.Test.YtneojimdhnhkeaaCFnSlots1
import Derived.Test.YtneojimdhnhkeaaCFnSlots3
import Derived.Test.YtneojimdhnhkeaaCFnSlots2
import Derived.Test.YtneojimdhnhkeaaCFnSlots4
import Derived.Test.YtneojimdhnhkeaaCFnSlots0
set_option linter.unusedVariables false
set_option linter.unusedSimpArgs false
namespace Go.Proofs.Ytneojimdhnhkeaa.Pure
open Go.RowKit Go.Proofs.Ytneojimdhnhkeaa.Print Go.Proofs.YtneojimdhnhkeaaW.PrintWords Go.Proofs.YtneojimdhnhkeaaW.PrintLast Go.Proofs.YtneojimdhnhkeaaW.PrintMore

def tally (n : Nat) (l : List Int) : List Int := (idx n).map fun g => ((l.count g : Nat) : Int)
theorem tally_length (n : Nat) (l : List Int) : (tally n l).length = n := by simp [tally, idx_length]
theorem tally_rd (n : Nat) (l : List Int) (x : Int) (h0 : 0 ≤ x) (h : x < n) : rd (tally n l) x = ((l.count x : Nat) : Int) := by
  obtain ⟨j, rfl⟩ := exists_nat_of_nonneg h0
  rw [rd_nat _ _ (by rw [tally_length]; omega)]
  simp [tally, idx]
theorem tally_snoc (n : Nat) (l : List Int) (x : Int) (h0 : 0 ≤ x) (h : x < n) : (tally n l).set x.toNat (rd (tally n l) x + 1) = tally n (l ++ [x]) := by
  apply List.ext_getElem
  · simp [tally_length]
  · intro j h1 h2
    rw [tally_length] at h2
    have e1 : ((tally n l).set x.toNat (rd (tally n l) x + 1))[j] = rd ((tally n l).set x.toNat (rd (tally n l) x + 1)) (j : Int) := (rd_nat _ _ h1).symm
    have e2 : (tally n (l ++ [x]))[j]'(by rw [tally_length]; exact h2) = rd (tally n (l ++ [x])) (j : Int) := (rd_nat _ _ (by rw [tally_length]; exact h2)).symm
    have q1 := tally_rd n l x h0 h
    have q2 := tally_rd n l (j : Int) (by omega) (by omega)
    have q3 := tally_rd n (l ++ [x]) (j : Int) (by omega) (by omega)
    rw [e1, e2, rd_setL _ _ _ _ h0 (by rw [tally_length]; exact h) (by omega), q3, q2, q1, List.count_append]
    by_cases e : (j : Int) = x
    · rw [if_pos e, e]; simp
    · have q4 : [x].count (j : Int) = 0 := List.count_eq_zero.mpr (fun hm => e (by simpa using hm))
      rw [if_neg e, q4]; simp
theorem tally_nil (n : Nat) : tally n [] = List.replicate n 0 := by
  apply List.ext_getElem
  · simp [tally_length]
  · intro j h1 h2; simp [tally]
def fitB (counts owners : List Int) : Bool := decide ((∀ x ∈ owners, 0 ≤ x ∧ x < (counts.length : Int)) ∧ tally counts.length owners = counts)
def spread (counts gs : List Int) : List Int := gs.flatMap fun g => List.replicate (rd counts g).toNat g
theorem spread_length (counts gs : List Int) : (spread counts gs).length = many counts gs := by
  unfold spread many
  rw [List.length_flatMap]
  congr 1
  exact List.map_congr_left fun x _ => List.length_replicate
theorem spread_count (counts : List Int) (x : Int) : ∀ gs : List Int, gs.Nodup → (spread counts gs).count x = if x ∈ gs then (rd counts x).toNat else 0
  | [], _ => rfl
  | g :: gs, h => by
    obtain ⟨h1, h2⟩ := List.nodup_cons.mp h
    have ih := spread_count counts x gs h2
    unfold spread at ih ⊢
    rw [List.flatMap_cons, List.count_append, ih, List.count_replicate]
    by_cases e : g = x
    · subst e
      rw [if_neg h1, if_pos (by simp)]; simp
    · rw [if_neg (by simpa using e)]
      by_cases m : x ∈ gs
      · rw [if_pos m, if_pos (List.mem_cons_of_mem _ m), Nat.zero_add]
      · rw [if_neg m, if_neg (fun q => by rcases List.mem_cons.mp q with q | q; · exact e q.symm
                                          · exact m q)]
theorem fit_perm {counts owners : List Int} (hc : ∀ x ∈ counts, 0 ≤ x) : fitB counts owners = true ↔ owners.Perm (spread counts (idx counts.length)) := by
  have cnt_ : ∀ x, (spread counts (idx counts.length)).count x = if 0 ≤ x ∧ x < (counts.length : Int) then (rd counts x).toNat else 0 := fun x => by
    rw [spread_count counts x _ (idx_nodup _)]
    simp only [mem_idx]
  have nn : ∀ x : Int, 0 ≤ x → x < (counts.length : Int) → 0 ≤ rd counts x := fun x h0 h1 => by
    obtain ⟨j, rfl⟩ := exists_nat_of_nonneg h0
    rw [rd_nat _ _ (by omega)]; exact hc _ (List.getElem_mem _)
  unfold fitB
  rw [decide_eq_true_eq]
  constructor
  · rintro ⟨h1, h2⟩
    rw [List.perm_iff_count]
    intro x
    rw [cnt_]
    by_cases hx : 0 ≤ x ∧ x < (counts.length : Int)
    · rw [if_pos hx]
      have := tally_rd counts.length owners x hx.1 hx.2
      rw [h2] at this; omega
    · rw [if_neg hx]
      exact List.count_eq_zero.mpr fun hm => hx (h1 x hm)
  · intro h
    refine ⟨fun x hx => ?_, ?_⟩
    · have hp := List.count_pos_iff.mpr (h.mem_iff.mp hx)
      rw [cnt_] at hp
      by_cases hx : 0 ≤ x ∧ x < (counts.length : Int)
      · exact hx
      · rw [if_neg hx] at hp; omega
    · apply List.ext_getElem (tally_length _ _)
      intro j h1 h2
      have e1 : (tally counts.length owners)[j] = rd (tally counts.length owners) (j : Int) := (rd_nat _ _ h1).symm
      rw [e1, tally_rd _ _ _ (by omega) (by omega), h.count_eq, cnt_, if_pos ⟨by omega, by omega⟩, ← rd_nat counts j h2]
      have := nn (j : Int) (by omega) (by omega)
      omega
theorem fit_length {counts owners : List Int} (hc : ∀ x ∈ counts, 0 ≤ x) (h : fitB counts owners = true) : (owners.length : Int) = counts.sum := by
  have hp := ((fit_perm hc).mp h).length_eq
  have hm := many_idx counts (fun _ _ => false) hc
  rw [spread_length] at hp
  have e : isl (fun _ _ => false) (idx counts.length) = idx counts.length := by
    have gen : ∀ (l s : List Int), l.foldl (fun s x => ins (fun _ _ => false) x s) s = s ++ l := by
      intro l
      induction l with
      | nil => intro s; simp
      | cons a l ih =>
        intro s
        have : ins (fun _ _ => false) a s = s ++ [a] := by
          unfold ins
          rw [show s.takeWhile (fun y => !(fun _ _ => false : Int → Int → Bool) a y) = s from ?_, show s.dropWhile (fun y => !(fun _ _ => false : Int → Int → Bool) a y) = [] from ?_]
          all_goals (induction s <;> simp_all)
        rw [List.foldl_cons, ih, this]; simp
    have := gen (idx counts.length) []
    simpa [isl] using this
  rw [e] at hm
  omega

theorem impl_fit_ev (counts owners : List Int) (hc : counts.length ≤ 1048576) (ho : owners.length ≤ 1048576) : Ev (fun k => impl_fit.f k counts owners) (fitB counts owners) := by
  unfold impl_fit.f
  refine Ev.pos (by omega) (Ev.pos (by omega) ?_)
  rw [toNat_nat, ← tally_nil]
  refine ev_up owners.length (fun k i => impl_fit.l0 k counts (tally counts.length (owners.take i)) owners (owners.length : Int) (i : Int)) _ (fun i => ∀ x ∈ owners.take i, 0 ≤ x ∧ x < (counts.length : Int)) (by simp) ?_ ?_
  · intro hI
    rw [List.take_length] at hI
    refine Ev.succ ?_
    simp only [impl_fit.l0]
    rw [List.take_length]
    refine Ev.neg (by omega) (Ev.bind (slices_Equal_ev _ _ (by rw [tally_length]; omega)) (Ev.to (Ev.now _) ?_))
    unfold fitB; exact decide_eq_decide.mpr ⟨fun q => ⟨hI, q⟩, fun q => q.2⟩
  · intro i hi hI hn
    have hcl : ((owners.take i).count owners[i] : Nat) ≤ i := Nat.le_trans List.count_le_length (by rw [List.length_take]; omega)
    refine Ev.succ ?_
    simp only [impl_fit.l0]
    rw [rd_nat _ _ hi, w64 (x := (i : Int) + 1) (by omega) (by omega), w64 (x := (counts.length : Int) - 1) (by omega) (by omega)]
    refine Ev.pos (by omega) (Ev.pos (by omega) (Ev.pos (by omega) (Ev.bind0 (impl_within_eq _ _ _) (Ev.ite (fun h => ?_) (fun h => ?_)))))
    · have h' : 0 ≤ owners[i] ∧ owners[i] ≤ (counts.length : Int) - 1 := by simpa using h
      rw [w64 (x := rd (tally counts.length (owners.take i)) owners[i] + 1) (by rw [tally_rd _ _ _ h'.1 (by omega)]; omega) (by rw [tally_rd _ _ _ h'.1 (by omega)]; omega), tally_snoc _ _ _ h'.1 (by omega), ← List.take_succ_eq_append_getElem hi]
      refine Ev.pos h'.1 (Ev.pos (by rw [tally_length]; omega) (hn fun x hx => ?_))
      rw [List.take_succ_eq_append_getElem hi] at hx
      rcases List.mem_append.mp hx with hx | hx
      · exact hI x hx
      · have : x = owners[i] := by simpa using hx
        omega
    · refine Ev.to (Ev.now _) (decide_eq_false fun q => h ?_).symm
      have := q.1 owners[i] (List.getElem_mem hi)
      simp only [Bool.and_eq_true, decide_eq_true_eq]; omega

theorem spec_l1Same_ev (a b : List Int) (hl : a.length ≤ 1048576) : Ev (fun k => spec_l1Same.f k a b) (decide (a = b)) := by
  unfold spec_l1Same.f
  refine Ev.ite (fun h => ?_) (fun h => ?_)
  · have hlen : a.length = b.length := by omega
    have gen : ∀ (d i : Nat), i + d = a.length → Ev (fun k => spec_l1Same.l0 k a b (a.length : Int) (i : Int)) (decide (a.drop i = b.drop i)) := by
      intro d
      induction d with
      | zero =>
        intro i hi
        rw [List.drop_of_length_le (by omega), List.drop_of_length_le (by omega)]
        refine Ev.succ ?_
        simp only [spec_l1Same.l0]; exact Ev.neg (by omega) (by simpa using Ev.now true)
      | succ d ih =>
        intro i hi
        have hi' : i < a.length := by omega
        have hi2 : i < b.length := by omega
        rw [List.drop_eq_getElem_cons hi', List.drop_eq_getElem_cons hi2]
        refine Ev.succ ?_
        simp only [spec_l1Same.l0]
        refine Ev.pos (by omega) (Ev.pos (by omega) (Ev.pos (by omega) (Ev.pos (by omega) ?_)))
        rw [rd_nat a i hi', rd_nat b i hi2, w64n hi' (by omega)]
        refine Ev.ite (fun h => ?_) (fun h => ?_)
        · have e : decide (a[i] :: a.drop (i + 1) = b[i] :: b.drop (i + 1)) = decide (a.drop (i + 1) = b.drop (i + 1)) := by
            rw [decide_eq_decide, h]; exact ⟨fun h => (List.cons.inj h).2, fun h => by rw [h]⟩
          rw [e]; exact ih (i + 1) (by omega)
        · have e : decide (a[i] :: a.drop (i + 1) = b[i] :: b.drop (i + 1)) = false := by
            rw [decide_eq_false_iff_not]; intro h2; injection h2 with h3; exact h h3
          rw [e]; exact Ev.now _
    simpa using gen a.length 0 (by omega)
  · exact Ev.to (Ev.now _) (decide_eq_false fun e => h (by rw [e])).symm
theorem spec_l17Fit_ev (counts owners : List Int) (hc : counts.length ≤ 1048576) (ho : owners.length ≤ 1048576) : Ev (fun k => spec_l17Fit.f k counts owners) (fitB counts owners) := by
  unfold spec_l17Fit.f
  refine Ev.pos (by omega) (Ev.pos (by omega) ?_)
  rw [toNat_nat, ← tally_nil]
  refine ev_up owners.length (fun k i => spec_l17Fit.l0 k counts (tally counts.length (owners.take i)) owners (owners.length : Int) (i : Int)) _ (fun i => ∀ x ∈ owners.take i, 0 ≤ x ∧ x < (counts.length : Int)) (by simp) ?_ ?_
  · intro hI
    rw [List.take_length] at hI
    refine Ev.succ ?_
    simp only [spec_l17Fit.l0]
    rw [List.take_length]
    refine Ev.neg (by omega) (Ev.bind (spec_l1Same_ev _ _ (by rw [tally_length]; omega)) (Ev.to (Ev.now _) ?_))
    unfold fitB; exact decide_eq_decide.mpr ⟨fun q => ⟨hI, q⟩, fun q => q.2⟩
  · intro i hi hI hn
    have hcl : ((owners.take i).count owners[i] : Nat) ≤ i := Nat.le_trans List.count_le_length (by rw [List.length_take]; omega)
    have hno : ¬ (0 ≤ owners[i] ∧ owners[i] < (counts.length : Int)) → false = fitB counts owners := fun h => (decide_eq_false fun q => h (q.1 owners[i] (List.getElem_mem hi))).symm
    refine Ev.succ ?_
    simp only [spec_l17Fit.l0]
    rw [rd_nat _ _ hi, w64 (x := (i : Int) + 1) (by omega) (by omega)]
    refine Ev.pos (by omega) (Ev.pos (by omega) (Ev.pos (by omega) (Ev.ite (fun h1 => Ev.to (Ev.now _) (hno (by omega))) (fun h1 => Ev.ite (fun h2 => Ev.to (Ev.now _) (hno (by omega))) (fun h2 => ?_)))))
    have h' : 0 ≤ owners[i] ∧ owners[i] < (counts.length : Int) := by omega
    rw [w64 (x := rd (tally counts.length (owners.take i)) owners[i] + 1) (by rw [tally_rd _ _ _ h'.1 (by omega)]; omega) (by rw [tally_rd _ _ _ h'.1 (by omega)]; omega), tally_snoc _ _ _ h'.1 (by omega), ← List.take_succ_eq_append_getElem hi]
    refine Ev.pos h'.1 (Ev.pos (by rw [tally_length]; omega) (hn fun x hx => ?_))
    rw [List.take_succ_eq_append_getElem hi] at hx
    rcases List.mem_append.mp hx with hx | hx
    · exact hI x hx
    · have : x = owners[i] := by simpa using hx
      omega

def carryL (picks counts ways owners : List Int) (n : Nat) : List (Int × Int) := (List.range n).map fun (j : Nat) => (lowNum (rd ways j * rd picks (rd owners j)) (rd counts (rd owners j)), lowDen (rd ways j * rd picks (rd owners j)) (rd counts (rd owners j)))
def travelF (picks counts ways owners : List Int) : Int × Int × Bool := if Picked picks counts ways ∧ fitB counts owners = true then sumF (carryL picks counts ways owners owners.length) (0, 1) else (0, 0, false)
theorem rd_in {l : List Int} {lo hi : Int} (h : ∀ x ∈ l, lo ≤ x ∧ x ≤ hi) (x : Int) (h0 : 0 ≤ x) (h1 : x < l.length) : lo ≤ rd l x ∧ rd l x ≤ hi := by
  obtain ⟨j, rfl⟩ := exists_nat_of_nonneg h0
  rw [rd_nat _ _ (by omega)]; exact h _ (List.getElem_mem _)
theorem travel_rd {picks counts ways owners : List Int} (h : Picked picks counts ways) (hf : fitB counts owners = true) : owners.length = ways.length ∧ owners.length ≤ 10 ∧ picks.length ≤ 8 ∧ counts.length = picks.length ∧
    (∀ j : Nat, j < owners.length → (0 ≤ rd owners j ∧ rd owners j < (picks.length : Int)) ∧ (0 ≤ rd ways j ∧ rd ways j ≤ 1000) ∧ (1 ≤ rd picks (rd owners j) ∧ rd picks (rd owners j) ≤ 30) ∧ (1 ≤ rd counts (rd owners j) ∧ rd counts (rd owners j) ≤ 10)) := by
  obtain ⟨h1, h2, h3, h4, h5, h6⟩ := h
  have hp := (flowOk_iff picks).mp h1
  have hc := (allIn_iff _ _ _).mp h3
  have hw := (allIn_iff _ _ _).mp h6
  have hl := fit_length (fun x hx => by have := hc x hx; omega) hf
  have hr : ∀ x ∈ owners, 0 ≤ x ∧ x < (counts.length : Int) := by unfold fitB at hf; exact (of_decide_eq_true hf).1
  refine ⟨by omega, by omega, hp.1.2, h2, fun j hj => ?_⟩
  have ho : 0 ≤ rd owners j ∧ rd owners j < (counts.length : Int) := by rw [rd_nat _ _ hj]; exact hr _ (List.getElem_mem hj)
  exact ⟨by omega, rd_in hw j (by omega) (by omega), rd_in hp.2 _ ho.1 (by omega), rd_in hc _ ho.1 ho.2⟩

def carryS (picks counts ways owners : List Int) (n : Nat) : List S50 := (List.range n).map fun (j : Nat) => ⟨lowNum (rd ways j * rd picks (rd owners j)) (rd counts (rd owners j)), lowDen (rd ways j * rd picks (rd owners j)) (rd counts (rd owners j))⟩
theorem carryS_succ (picks counts ways owners : List Int) (n : Nat) : carryS picks counts ways owners (n + 1) = carryS picks counts ways owners n ++ [⟨lowNum (rd ways n * rd picks (rd owners n)) (rd counts (rd owners n)), lowDen (rd ways n * rd picks (rd owners n)) (rd counts (rd owners n))⟩] := by unfold carryS; rw [List.range_succ, List.map_append]; rfl
theorem carryS_map (picks counts ways owners : List Int) (n : Nat) : (carryS picks counts ways owners n).map (fun x => (x.f0, x.f1)) = carryL picks counts ways owners n := by unfold carryS carryL; rw [List.map_map]; rfl
theorem carryS_length (picks counts ways owners : List Int) (n : Nat) : (carryS picks counts ways owners n).length = n := by simp [carryS]
theorem impl_TravelOf_ev (picks counts ways owners : List Int) (h1 : picks.length ≤ 1048576) (h2 : counts.length ≤ 1048576) (h3 : ways.length ≤ 1048576) (h4 : owners.length ≤ 1048576) : Ev (fun k => impl_TravelOf.f k picks counts ways owners) (travelF picks counts ways owners) := by
  unfold impl_TravelOf.f travelF
  refine Ev.bind (impl_arePicked_ev picks counts ways h1 h2 h3) (Ev.ite (fun hp => Ev.bind (impl_fit_ev counts owners h2 h4) (Ev.ite (fun hf => ?_) (fun hf => ?_))) (fun hp => ?_))
  · have hp := of_decide_eq_true hp
    rw [if_pos ⟨hp, hf⟩]
    obtain ⟨r1, r2, r3, r4, r5⟩ := travel_rd hp hf
    refine Ev.bind (a := sumF (carryL picks counts ways owners owners.length) (0, 1)) ?_ (Ev.now _)
    unfold impl_travel.f
    refine ev_up owners.length (fun k i => impl_travel.l0 k picks counts ways (carryS picks counts ways owners i) owners (owners.length : Int) (i : Int)) _ (fun _ => True) trivial ?_ ?_
    · intro _
      refine Ev.succ ?_
      simp only [impl_travel.l0]
      have hs := impl_sumFracs_ev (carryS picks counts ways owners owners.length) (by rw [carryS_length]; omega)
      rw [carryS_map] at hs
      exact Ev.neg (by omega) (Ev.bind hs (Ev.now _))
    · intro i hi _ hn
      obtain ⟨q1, q2, q3, q4⟩ := r5 i hi
      have hm := mul_small q2 (m := 1000) (n := 30) (b := rd picks (rd owners i)) (by omega)
      have hl := impl_lowest_fits (rd ways i * rd picks (rd owners i)) (rd counts (rd owners i)) (by omega) (by omega) (by omega)
      have hg := low_good (rd ways i * rd picks (rd owners i)) (rd counts (rd owners i)) (by omega) (by omega)
      unfold fits at hl
      rw [if_pos hg] at hl
      refine Ev.succ ?_
      simp only [impl_travel.l0]
      rw [w64 (x := (i : Int) + 1) (by omega) (by omega), w64 (x := rd ways i * rd picks (rd owners i)) (by omega) (by omega)]
      refine Ev.pos (by omega) (Ev.pos (by omega) (Ev.pos (by omega) (Ev.pos (by omega) (Ev.pos (by omega) (Ev.pos (by omega) (Ev.pos (by omega) (Ev.bind hl (Ev.pos (by rw [carryS_length]; omega) ?_))))))))
      have hn := hn trivial
      rw [carryS_succ] at hn
      exact hn
  · rw [if_neg (fun q => hf q.2)]; exact Ev.now _
  · rw [if_neg (fun q => hp (decide_eq_true q.1))]; exact Ev.now _

theorem spec_TravelOf_ev (picks counts ways owners : List Int) (h1 : picks.length ≤ 1048576) (h2 : counts.length ≤ 1048576) (h3 : ways.length ≤ 1048576) (h4 : owners.length ≤ 1048576) : Ev (fun k => spec_TravelOf.f k picks counts ways owners) (travelF picks counts ways owners) := by
  unfold spec_TravelOf.f travelF
  have no : ¬ (Picked picks counts ways ∧ fitB counts owners = true) → Ev (fun k => spec_TravelOf.j0 k picks counts ways owners true) (if Picked picks counts ways ∧ fitB counts owners = true then sumF (carryL picks counts ways owners owners.length) (0, 1) else (0, 0, false)) := fun h => by
    rw [if_neg h]
    refine Ev.succ ?_
    simp only [spec_TravelOf.j0, if_true]
    exact Ev.now _
  refine Ev.bind (spec_l17All_ev picks counts ways h1 h2 h3) (Ev.ite (fun hp => Ev.ite (fun hl => Ev.bind (spec_l17Fit_ev counts owners h2 h4) ?_) (fun hl => ?_)) (fun hp => no (fun q => hp (decide_eq_true q.1))))
  · have hp := of_decide_eq_true hp
    by_cases hf : fitB counts owners = true
    · rw [if_pos ⟨hp, hf⟩, hf]
      obtain ⟨r1, r2, r3, r4, r5⟩ := travel_rd hp hf
      refine Ev.succ ?_
      simp only [spec_TravelOf.j0, Bool.not_true, Bool.false_eq_true, if_false]
      refine ev_up owners.length (fun k i => spec_TravelOf.l0 k picks counts ways (carryS picks counts ways owners i) owners (owners.length : Int) (i : Int)) _ (fun _ => True) trivial ?_ ?_
      · intro _
        refine Ev.succ ?_
        simp only [spec_TravelOf.l0]
        have hs := spec_SumFracs_ev (carryS picks counts ways owners owners.length) (by rw [carryS_length]; omega)
        rw [carryS_map] at hs
        unfold sumsF at hs
        rw [if_pos (by simp [carryL]; omega)] at hs
        exact Ev.neg (by omega) (Ev.bind hs (Ev.now _))
      · intro i hi _ hn
        obtain ⟨q1, q2, q3, q4⟩ := r5 i hi
        have hm := mul_small q2 (m := 1000) (n := 30) (b := rd picks (rd owners i)) (by omega)
        have hl := spec_l1Make_ev (rd ways i * rd picks (rd owners i)) (rd counts (rd owners i)) (by omega) (by omega) (by omega)
        refine Ev.succ ?_
        simp only [spec_TravelOf.l0]
        rw [w64 (x := (i : Int) + 1) (by omega) (by omega), w64 (x := rd ways i * rd picks (rd owners i)) (by omega) (by omega)]
        refine Ev.pos (by omega) (Ev.pos (by omega) (Ev.pos (by omega) (Ev.pos (by omega) (Ev.pos (by omega) (Ev.pos (by omega) (Ev.pos (by omega) (Ev.bind hl (Ev.pos (by rw [carryS_length]; omega) ?_))))))))
        have hn := hn trivial
        rw [carryS_succ] at hn
        exact hn
    · have hf' : fitB counts owners = false := by simpa using hf
      have := no (fun q => hf q.2)
      rw [hf']; rw [hf'] at this; exact this
  · have hp' := of_decide_eq_true hp
    refine no (fun q => hl ?_)
    have := (travel_rd q.1 q.2).1
    omega

theorem place_writeAll (g : Int) (m : Nat) : ∀ s out : List Int, place g m s out = writeAll s (List.replicate m g) out := by
  induction m with
  | zero => intro s out; rw [place_zero]; exact (writeAll_nil s out).symm
  | succ m ih =>
    intro s out
    cases s with
    | nil => rfl
    | cons a s => rw [place, ih, List.replicate_succ, writeAll]
theorem fillOut_writeAll (counts : List Int) : ∀ gs slots out : List Int, fillOut counts gs slots out = writeAll slots (spread counts gs) out
  | [], slots, out => by rw [fillOut]; exact (writeAll_nil slots out).symm
  | g :: gs, slots, out => by
    rw [fillOut, fillOut_writeAll counts gs, place_writeAll]
    have := writeAll_append (List.replicate (rd counts g).toNat g) (spread counts gs) slots out
    rw [List.length_replicate] at this
    rw [← this]
    unfold spread
    rw [List.flatMap_cons]
def carD (picks counts : List Int) (g : Int) : Int := rd picks g * (2520 / rd counts g)
theorem div2520 {c : Int} (h : 1 ≤ c ∧ c ≤ 10) : c * (2520 / c) = 2520 ∧ 1 ≤ 2520 / c := by
  have : c = 1 ∨ c = 2 ∨ c = 3 ∨ c = 4 ∨ c = 5 ∨ c = 6 ∨ c = 7 ∨ c = 8 ∨ c = 9 ∨ c = 10 := by omega
  rcases this with e | e | e | e | e | e | e | e | e | e <;> subst e <;> decide
theorem carD_le {p q c d : Int} (hc : 1 ≤ c ∧ c ≤ 10) (hd : 1 ≤ d ∧ d ≤ 10) (h : q * c ≤ p * d) : q * (2520 / d) ≤ p * (2520 / c) := by
  obtain ⟨e1, e2⟩ := div2520 hc
  obtain ⟨e3, e4⟩ := div2520 hd
  revert e1 e2 e3 e4
  generalize 2520 / c = x
  generalize 2520 / d = y
  intro e1 e2 e3 e4
  have h1 : q * c * (x * y) ≤ p * d * (x * y) := Int.mul_le_mul_of_nonneg_right h (Int.mul_nonneg (by omega) (by omega))
  have h2 : q * c * (x * y) = (q * y) * 2520 := by rw [← e1]; simp only [Int.mul_assoc, Int.mul_comm, Int.mul_left_comm]
  have h3 : p * d * (x * y) = (p * x) * 2520 := by rw [← e3]; simp only [Int.mul_assoc, Int.mul_comm, Int.mul_left_comm]
  rw [h2, h3] at h1
  omega
theorem spread_sorted {counts gs : List Int} {R : Int → Int → Prop} (hr : ∀ g, R g g) : gs.Pairwise R → (spread counts gs).Pairwise R := by
  intro h
  induction gs with
  | nil => exact List.Pairwise.nil
  | cons g gs ih =>
    obtain ⟨h1, h2⟩ := List.pairwise_cons.mp h
    unfold spread
    rw [List.flatMap_cons, List.pairwise_append]
    refine ⟨List.pairwise_replicate.mpr (.inr (hr g)), ih h2, fun a ha b hb => ?_⟩
    have ea : a = g := (List.mem_replicate.mp ha).2
    obtain ⟨c, hc, hb⟩ := List.mem_flatMap.mp hb
    have eb : b = c := (List.mem_replicate.mp hb).2
    rw [ea, eb]; exact h1 c hc
theorem rd_mapL (l : List Int) (f : Int → Int) (x : Int) (h0 : 0 ≤ x) (h1 : x < l.length) : rd (l.map f) x = f (rd l x) := by
  obtain ⟨j, rfl⟩ := exists_nat_of_nonneg h0
  rw [rd_nat _ _ (by simp; omega), rd_nat _ _ (by omega), List.getElem_map]
theorem perm_map_rd {S L : List Int} (hS : S.Perm (idx L.length)) : (S.map (rd L)).Perm L := by
  have := hS.map (rd L)
  rw [map_rd_idx] at this; exact this
theorem slots_best {picks counts ways : List Int} (h : Picked picks counts ways) : fitB counts (slotsOf picks counts ways) = true ∧
    ∀ owners, fitB counts owners = true → dot ways ((slotsOf picks counts ways).map (carD picks counts)) ≤ dot ways (owners.map (carD picks counts)) := by
  obtain ⟨h1, h2, h3, h4, h5, h6⟩ := h
  have hp := (flowOk_iff picks).mp h1
  have hc := (allIn_iff _ _ _).mp h3
  have hw := (allIn_iff _ _ _).mp h6
  have hc0 : ∀ x ∈ counts, 0 ≤ x := fun x hx => by have := hc x hx; omega
  obtain ⟨S, hS⟩ : ∃ S, S = isl (fun a b => decide (rd ways a < rd ways b)) (idx ways.length) := ⟨_, rfl⟩
  obtain ⟨gs, hgs⟩ : ∃ gs, gs = isl (ltG picks counts) (idx picks.length) := ⟨_, rfl⟩
  have eL : slotsOf picks counts ways = writeAll S (spread counts gs) (List.replicate ways.length 0) := by unfold slotsOf; rw [fillOut_writeAll, hS, hgs]
  have pS : S.Perm (idx ways.length) := by rw [hS]; exact isl_perm _ _
  have nS : S.Nodup := by rw [hS]; exact isl_idx_nodup _ _
  have lS : S.length = ways.length := by rw [hS]; exact isl_idx_length _ _
  have aS : (S.map (rd ways)).Pairwise (fun x y => x ≤ y) := by rw [hS]; exact isl_map_asc ways _ (Nat.le_refl _)
  have pg : gs.Perm (idx counts.length) := by rw [hgs, h2]; exact isl_perm _ _
  have lG : (spread counts gs).length = ways.length := by
    have := many_idx counts (ltG picks counts) hc0
    rw [h2, ← hgs] at this
    rw [spread_length]; omega
  have lL : (slotsOf picks counts ways).length = ways.length := by rw [eL, writeAll_length, List.length_replicate]
  have rL : S.map (rd (slotsOf picks counts ways)) = spread counts gs := by
    rw [eL]
    exact writeAll_read S _ _ nS (fun s hs => by have := (mem_idx _ _).mp (pS.mem_iff.mp hs); simp; omega) (by rw [lG, lS])
  have pS' : ∀ {L : List Int}, L.length = ways.length → S.Perm (idx L.length) := fun e => by rw [e]; exact pS
  have pGL : (spread counts gs).Perm (slotsOf picks counts ways) := by rw [← rL]; exact perm_map_rd (pS' lL)
  have pGi : (spread counts gs).Perm (spread counts (idx counts.length)) := List.Perm.flatMap_right _ pg
  have fL : fitB counts (slotsOf picks counts ways) = true := (fit_perm hc0).mpr (pGL.symm.trans pGi)
  refine ⟨fL, fun owners ho => ?_⟩
  have po := (fit_perm hc0).mp ho
  have lo : owners.length = ways.length := by have := fit_length hc0 ho; omega
  rw [dot_perm ways _ S (by rw [List.length_map, lL]) pS, dot_perm ways (owners.map _) S (by rw [List.length_map, lo]) pS]
  have m1 : ∀ {L : List Int}, L.length = ways.length → S.map (rd (L.map (carD picks counts))) = (S.map (rd L)).map (carD picks counts) := fun {L} e => by
    rw [List.map_map]
    refine List.map_congr_left fun x hx => ?_
    have := (mem_idx _ _).mp (pS.mem_iff.mp hx)
    exact rd_mapL _ _ _ this.1 (by omega)
  rw [m1 lL, m1 lo, rL]
  refine rearr _ _ _ aS ?_ ?_ (by rw [List.length_map, List.length_map, lG, lS])
  · refine List.Pairwise.map _ ?_ (spread_sorted (R := fun a b => carD picks counts b ≤ carD picks counts a) (fun _ => Int.le_refl _) ?_)
    · intro a b hab; exact hab
    · have bc : ∀ j : Int, 0 ≤ j → j < picks.length → 1 ≤ rd counts j := fun j h0 h1 => (rd_in hc j h0 (by omega)).1
      have hs := isl_sorted (ltG_weak picks counts bc) (idx picks.length) (fun y hy => (mem_idx _ _).mp hy) (idx picks.length).length (Nat.le_refl _)
      rw [List.take_length, ← hgs] at hs
      refine hs.imp_of_mem fun {a b} ha hb hab => ?_
      have ia := (mem_idx _ _).mp (pg.mem_iff.mp ha)
      have ib := (mem_idx _ _).mp (pg.mem_iff.mp hb)
      simp only [ltG, decide_eq_false_iff_not, Int.not_lt] at hab
      exact carD_le (rd_in hc a ia.1 ia.2) (rd_in hc b ib.1 ib.2) hab
  · refine List.Perm.map _ (pGi.trans (po.symm.trans ?_))
    exact (perm_map_rd (pS' lo)).symm
theorem travel_isD {picks counts ways owners : List Int} (h : Picked picks counts ways) (hf : fitB counts owners = true) (ok : (travelF picks counts ways owners).2.2 = true) :
    isD 2520 ((travelF picks counts ways owners).1, (travelF picks counts ways owners).2.1) (dot ways (owners.map (carD picks counts))) ∧ goodFrac (travelF picks counts ways owners).1 (travelF picks counts ways owners).2.1 = true := by
  obtain ⟨r1, r2, r3, r4, r5⟩ := travel_rd h hf
  have e : travelF picks counts ways owners = sumF (carryL picks counts ways owners owners.length) (0, 1) := by unfold travelF; rw [if_pos ⟨h, hf⟩]
  rw [e] at ok ⊢
  have key := sumF_isD (D := 2520) (fun (j : Nat) => (lowNum (rd ways j * rd picks (rd owners j)) (rd counts (rd owners j)), lowDen (rd ways j * rd picks (rd owners j)) (rd counts (rd owners j)))) (fun (j : Nat) => rd ways j * carD picks counts (rd owners j)) (List.range owners.length) (0, 1) 0 (fun j hj => by
      have hj' : j < owners.length := by simpa using hj
      obtain ⟨q1, q2, q3, q4⟩ := r5 j hj'
      refine low_isD (by omega) ?_
      have := (div2520 q4).1
      unfold carD
      generalize 2520 / rd counts (rd owners j) = q at this ⊢
      generalize rd counts (rd owners j) = c at this ⊢
      generalize rd ways j = w
      generalize rd picks (rd owners j) = z
      show w * z * 2520 = c * (w * (z * q))
      rw [show c * (w * (z * q)) = w * z * (c * q) by simp only [Int.mul_assoc, Int.mul_comm, Int.mul_left_comm], this]) ⟨by decide, by decide⟩ (by decide) ok
  have es : ((List.range owners.length).map fun (j : Nat) => rd ways j * carD picks counts (rd owners j)).sum = dot ways (owners.map (carD picks counts)) := by
    rw [dot_idx ways _ (by rw [List.length_map, r1])]
    unfold idx
    rw [List.map_map, r1]
    congr 1
    refine List.map_congr_left fun j hj => ?_
    have hj' : j < ways.length := by simpa using hj
    simp only [Function.comp_apply]
    rw [rd_mapL _ _ _ (by omega) (by omega)]
  rw [es, Int.zero_add] at key
  exact key

def ownF (counts owners : List Int) : Bool × Bool := if (1 ≤ counts.length ∧ counts.length ≤ 8) ∧ allIn counts 1 10 = true ∧ counts.sum ≤ 10 then (fitB counts owners, true) else (false, false)
theorem impl_OwnersFit_ev (counts owners : List Int) (hc : counts.length ≤ 1048576) (ho : owners.length ≤ 1048576) : Ev (fun k => impl_OwnersFit.f k counts owners) (ownF counts owners) := by
  unfold impl_OwnersFit.f ownF
  refine Ev.bind (a := decide ((1 ≤ counts.length ∧ counts.length ≤ 8) ∧ allIn counts 1 10 = true ∧ counts.sum ≤ 10)) ?_ (Ev.ite (fun h => ?_) (fun h => ?_))
  · unfold impl_areHoused.f
    refine Ev.bind0 (impl_within_eq _ _ _) (Ev.ite (fun h1 => Ev.bind (impl_allWithin_ev counts 1 10 (by omega)) (Ev.ite (fun h2 => Ev.bind (impl_sum_ev counts 1 10 ((allIn_iff _ _ _).mp h2) (by omega) (by omega) hc) (Ev.to (Ev.now _) ?_)) (fun h2 => Ev.to (Ev.now _) (decide_eq_false fun q => h2 q.2.1).symm))) (fun h1 => Ev.to (Ev.now _) (decide_eq_false fun q => h1 ?_).symm))
    · have h1' : 1 ≤ (counts.length : Int) ∧ (counts.length : Int) ≤ 8 := by simpa using h1
      exact decide_eq_decide.mpr ⟨fun q => ⟨by omega, h2, q⟩, fun q => q.2.2⟩
    · have := q.1
      simp only [Bool.and_eq_true, decide_eq_true_eq]; omega
  · rw [if_pos (of_decide_eq_true h)]; exact Ev.bind (impl_fit_ev counts owners hc ho) (Ev.now _)
  · rw [if_neg (fun q => h (decide_eq_true q))]; exact Ev.now _

theorem spec_OwnersFit_ev (counts owners : List Int) (hc : counts.length ≤ 1048576) (ho : owners.length ≤ 1048576) : Ev (fun k => spec_OwnersFit.f k counts owners) (ownF counts owners) := by
  unfold spec_OwnersFit.f
  by_cases h2 : allIn counts 1 10 = true ∧ counts.length ≤ 8
  · have hs := spec_l3Sum_ev counts 1 10 ((allIn_iff _ _ _).mp h2.1) (by omega) (by omega) hc
    refine Ev.bind (a := counts.sum) ?_ ?_
    · unfold spec_l17Sum.f
      exact Ev.bind (spec_l1All_ev counts 1 10 (by omega)) (Ev.pos h2.1 (Ev.neg (by omega) (Ev.bind hs (Ev.now _))))
    · refine Ev.bind (a := decide ((1 ≤ counts.length ∧ counts.length ≤ 8) ∧ allIn counts 1 10 = true ∧ counts.sum ≤ 10)) ?_ (Ev.ite (fun h => ?_) (fun h => ?_))
      · unfold spec_l17Counts.f
        refine Ev.bind0 (spec_l1In_eq _ _ _) (Ev.ite (fun h1 => Ev.bind (spec_l1All_ev counts 1 10 (by omega)) (Ev.pos h2.1 (Ev.bind hs (Ev.pos rfl (Ev.to (Ev.now _) ?_))))) (fun h1 => Ev.to (Ev.now _) (decide_eq_false fun q => h1 ?_).symm))
        · have h1' : 1 ≤ (counts.length : Int) ∧ (counts.length : Int) ≤ 8 := by simpa using h1
          exact decide_eq_decide.mpr ⟨fun q => ⟨by omega, h2.1, q⟩, fun q => q.2.2⟩
        · have := q.1
          simp only [Bool.and_eq_true, decide_eq_true_eq]; omega
      · unfold ownF; rw [if_pos (of_decide_eq_true h)]; exact Ev.bind (spec_l17Fit_ev counts owners hc ho) (Ev.now _)
      · unfold ownF; rw [if_neg (fun q => h (decide_eq_true q))]; exact Ev.now _
  · have eo : ownF counts owners = (false, false) := by unfold ownF; rw [if_neg (fun q => h2 ⟨q.2.1, q.1.2⟩)]
    rw [eo]
    refine Ev.bind (a := (-1 : Int)) ?_ (Ev.bind (a := false) ?_ (Ev.neg (by simp) (Ev.now _)))
    · unfold spec_l17Sum.f
      refine Ev.bind (spec_l1All_ev counts 1 10 (by omega)) (Ev.ite (fun h => Ev.pos ?_ (Ev.now _)) (fun _ => Ev.now _))
      have : ¬ counts.length ≤ 8 := fun q => h2 ⟨h, q⟩
      omega
    · unfold spec_l17Counts.f
      refine Ev.bind0 (spec_l1In_eq _ _ _) (Ev.ite (fun h1 => Ev.bind (spec_l1All_ev counts 1 10 (by omega)) (Ev.ite (fun h3 => ?_) (fun _ => Ev.now _))) (fun _ => Ev.now _))
      have h1' : 1 ≤ (counts.length : Int) ∧ (counts.length : Int) ≤ 8 := by simpa using h1
      exact absurd ⟨h3, by omega⟩ h2

theorem cur_slotted (l : List Int) (a s : Int) (hl : bytesOk l) (ha : 0 ≤ a ∧ a ≤ 4611686018427387000) :
    ∃ (p c w : List Int) (a' s' : Int), Ev (fun k => spec_l1Cur_slotted.f k l a s) (p, c, w, a', s') ∧ p.length ≤ 4 ∧ c.length ≤ 4 ∧ w.length ≤ 20 ∧ a ≤ a' ∧ a' ≤ a + 80 := by
  have j2 : ∀ (p c w : List Int) (a s : Int), 1 ≤ c.length → 0 ≤ a ∧ a ≤ 4611686018427387300 → ∃ (c' : List Int) (a' s' : Int), Ev (fun k => spec_l1Cur_slotted.j2 k p c w l a s) (p, c', w, a', s') ∧ c'.length = c.length ∧ a ≤ a' ∧ a' ≤ a + 4 := by
    intro p c w a s hc ha
    obtain ⟨b, a1, s1, e1, h1⟩ := cur_one l a s 30 hl (by omega)
    cases b with
    | true =>
      obtain ⟨v, a2, s2, e2, _, _, h3⟩ := cur_pick l a1 s1 2 hl (by omega)
      refine ⟨c.set (0 : Int).toNat v, a2, s2, Ev.succ ?_, by rw [List.length_set], by omega, by omega⟩
      simp only [spec_l1Cur_slotted.j2]
      exact Ev.bind0 e1 (Ev.pos rfl (Ev.bind0 e2 (Ev.pos (by omega) (Ev.now _))))
    | false =>
      refine ⟨c, a1, s1, Ev.succ ?_, rfl, by omega, by omega⟩
      simp only [spec_l1Cur_slotted.j2]
      exact Ev.bind0 e1 (Ev.neg (by simp) (Ev.now _))
  have l1 : ∀ (d : Nat) (p c w : List Int) (a s : Int), 1 ≤ c.length → w.length + d ≤ 19 → 0 ≤ a ∧ a + 2 * d ≤ 4611686018427387200 → ∃ (c' w' : List Int) (a' s' : Int), Ev (fun k => spec_l1Cur_slotted.l1 k p c w (d : Int) l a s) (p, c', w', a', s') ∧ c'.length = c.length ∧ w'.length ≤ 20 ∧ a ≤ a' ∧ a' ≤ a + 2 * d + 6 := by
    intro d
    induction d with
    | zero =>
      intro p c w a s hc hw ha
      obtain ⟨b, a1, s1, e1, h1⟩ := cur_one l a s 20 hl (by omega)
      cases b with
      | true =>
        obtain ⟨c', a', s', e, h⟩ := j2 p c (w ++ [3]) a1 s1 hc (by omega)
        refine ⟨c', w ++ [3], a', s', Ev.succ ?_, h.1, by simp; omega, by omega, by omega⟩
        simp only [spec_l1Cur_slotted.l1]
        exact Ev.neg (by omega) (Ev.bind0 e1 (Ev.pos rfl (Ev.pos (by omega) e)))
      | false =>
        obtain ⟨c', a', s', e, h⟩ := j2 p c w a1 s1 hc (by omega)
        refine ⟨c', w, a', s', Ev.succ ?_, h.1, by omega, by omega, by omega⟩
        simp only [spec_l1Cur_slotted.l1]
        exact Ev.neg (by omega) (Ev.bind0 e1 (Ev.neg (by simp) e))
    | succ d ih =>
      intro p c w a s hc hw ha
      obtain ⟨v, a1, s1, e1, _, _, h1⟩ := cur_pick l a s 30 hl (by omega)
      obtain ⟨c', w', a', s', e, h⟩ := ih p c (w ++ [v]) a1 s1 hc (by simp; omega) (by omega)
      refine ⟨c', w', a', s', Ev.succ ?_, h.1, h.2.1, by omega, by omega⟩
      simp only [spec_l1Cur_slotted.l1]
      refine Ev.pos (by omega) (Ev.bind0 e1 (Ev.pos (by omega) ?_))
      rw [w64 (by omega) (by omega), show ((d + 1 : Nat) : Int) - 1 = (d : Int) by omega]
      exact e
  have l0 : ∀ (d : Nat) (p c : List Int) (a s : Int), p.length + d ≤ 4 → c.length + d ≤ 4 → 1 ≤ c.length + d → (∀ x ∈ c, 1 ≤ x ∧ x ≤ 3) → 0 ≤ a ∧ a + 4 * d ≤ 4611686018427387100 → ∃ (p' c' w' : List Int) (a' s' : Int), Ev (fun k => spec_l1Cur_slotted.l0 k p c (d : Int) l a s) (p', c', w', a', s') ∧ p'.length ≤ 4 ∧ c'.length ≤ 4 ∧ w'.length ≤ 20 ∧ a ≤ a' ∧ a' ≤ a + 4 * d + 40 := by
    intro d
    induction d with
    | zero =>
      intro p c a s hp hc hc1 hx ha
      have hs := sum_bounds c 1 3 hx
      obtain ⟨c', w', a', s', e, h⟩ := l1 c.sum.toNat p c [] a s (by omega) (by simp; omega) (by omega)
      rw [show ((c.sum.toNat : Nat) : Int) = c.sum by omega] at e
      refine ⟨p, c', w', a', s', Ev.succ ?_, by omega, by omega, h.2.1, by omega, by omega⟩
      simp only [spec_l1Cur_slotted.l0]
      exact Ev.neg (by omega) (Ev.bind (spec_l3Sum_ev c 1 3 hx (by omega) (by omega) (by omega)) e)
    | succ d ih =>
      intro p c a s hp hc hc1 hx ha
      obtain ⟨u, a1, s1, e1, _, _, h1⟩ := cur_pick l a s 30 hl (by omega)
      obtain ⟨v, a2, s2, e2, v1, v2, h2⟩ := cur_pick l a1 s1 3 hl (by omega)
      obtain ⟨p', c', w', a', s', e, h⟩ := ih (p ++ [wrap64 (1 + u)]) (c ++ [wrap64 (1 + v)]) a2 s2 (by simp; omega) (by simp; omega) (by simp; omega) (fun x hm => by
        rcases List.mem_append.mp hm with hm | hm
        · exact hx x hm
        · have : x = wrap64 (1 + v) := by simpa using hm
          rw [this, w64 (by omega) (by omega)]; omega) (by omega)
      refine ⟨p', c', w', a', s', Ev.succ ?_, h.1, h.2.1, h.2.2.1, by omega, by omega⟩
      simp only [spec_l1Cur_slotted.l0]
      refine Ev.pos (by omega) (Ev.bind0 e1 (Ev.pos (by omega) (Ev.bind0 e2 (Ev.pos (by omega) ?_))))
      rw [w64 (x := ((d + 1 : Nat) : Int) - 1) (by omega) (by omega), show ((d + 1 : Nat) : Int) - 1 = (d : Int) by omega]
      exact e
  unfold spec_l1Cur_slotted.f
  obtain ⟨n, a1, s1, e1, n1, n2, n3⟩ := cur_pick l a s 4 hl (by omega)
  obtain ⟨p', c', w', a', s', e, h⟩ := l0 (1 + n).toNat [] [] a1 s1 (by simp; omega) (by simp; omega) (by simp; omega) (by simp) (by omega)
  rw [show (((1 + n).toNat : Nat) : Int) = 1 + n by omega] at e
  refine ⟨p', c', w', a', s', Ev.bind0 e1 ?_, h.1, h.2.1, h.2.2.1, by omega, by omega⟩
  rw [w64 (by omega) (by omega)]; exact e

theorem spec_DrawTravelOf_ev (l : List Int) (hl : bytesOk l) : ∃ p c w o : List Int, Ev (fun k => spec_DrawTravelOf.f k l) (p, c, w, o) ∧ p.length ≤ 100 ∧ c.length ≤ 100 ∧ w.length ≤ 100 ∧ o.length ≤ 100 := by
  obtain ⟨p, c, w, a, s, e, h1, h2, h3, h4, h5⟩ := cur_slotted l 0 0 hl (by omega)
  have hS := spec_SlotsFor_ev p c w (by omega) (by omega) (by omega)
  have hlen := slotsFor_length p c w
  revert hS hlen
  generalize (if Picked p c w then (slotsOf p c w, true) else (([] : List Int), false)) = R
  obtain ⟨o, ok⟩ := R
  intro hS hlen
  dsimp only at hlen
  have j1 : ∀ (o : List Int) (a s : Int), o.length ≤ 10 → 0 ≤ a ∧ a ≤ 1000 → ∃ o' : List Int, Ev (fun k => spec_DrawTravelOf.j1 k p c w o l a s) (p, c, w, o') ∧ o'.length ≤ 10 := by
    intro o a s ho ha
    by_cases h0 : (o.length : Int) > 0
    · obtain ⟨b, a1, s1, e1, g1⟩ := cur_one l a s 20 hl (by omega)
      cases b with
      | true =>
        obtain ⟨v, a2, s2, e2, _⟩ := cur_pick l a1 s1 6 hl (by omega)
        refine ⟨o.set (0 : Int).toNat (wrap64 (v - 1)), Ev.succ ?_, by rw [List.length_set]; exact ho⟩
        simp only [spec_DrawTravelOf.j1]
        exact Ev.pos h0 (Ev.bind0 e1 (Ev.pos rfl (Ev.bind0 e2 (Ev.pos (by omega) (Ev.now _)))))
      | false =>
        refine ⟨o, Ev.succ ?_, ho⟩
        simp only [spec_DrawTravelOf.j1]
        exact Ev.pos h0 (Ev.bind0 e1 (Ev.neg (by simp) (Ev.now _)))
    · refine ⟨o, Ev.succ ?_, ho⟩
      simp only [spec_DrawTravelOf.j1]
      exact Ev.neg h0 (Ev.now _)
  by_cases h : (o.length : Int) > 1
  · obtain ⟨b, a1, s1, e1, g1⟩ := cur_one l a s 2 hl (by omega)
    cases b with
    | true =>
      obtain ⟨i, a2, s2, e2, i1, i2, i3⟩ := cur_pick l a1 s1 (o.length : Int) hl (by omega)
      obtain ⟨j, a3, s3, e3, q1, q2, q3⟩ := cur_pick l a2 s2 (o.length : Int) hl (by omega)
      obtain ⟨o', e', ho'⟩ := j1 ((o.set i.toNat (rd o j)).set j.toNat (rd o i)) a3 s3 (by simp; omega) (by omega)
      refine ⟨p, c, w, o', Ev.bind e (Ev.bind hS (Ev.pos h (Ev.bind0 e1 (Ev.succ ?_)))), by omega, by omega, by omega, by omega⟩
      simp only [spec_DrawTravelOf.j0, if_true]
      exact Ev.bind0 e2 (Ev.bind0 e3 (Ev.pos (by omega) (Ev.pos (by omega) (Ev.pos (by omega) (Ev.pos (by omega) e')))))
    | false =>
      obtain ⟨o', e', ho'⟩ := j1 o a1 s1 (by omega) (by omega)
      refine ⟨p, c, w, o', Ev.bind e (Ev.bind hS (Ev.pos h (Ev.bind0 e1 (Ev.succ ?_)))), by omega, by omega, by omega, by omega⟩
      simp only [spec_DrawTravelOf.j0, Bool.false_eq_true, if_false]
      exact e'
  · obtain ⟨o', e', ho'⟩ := j1 o a s (by omega) (by omega)
    refine ⟨p, c, w, o', Ev.bind e (Ev.bind hS (Ev.neg h (Ev.succ ?_))), by omega, by omega, by omega, by omega⟩
    simp only [spec_DrawTravelOf.j0, Bool.false_eq_true, if_false]
    exact e'
theorem spec_DrawOwnersFit_ev (l : List Int) (hl : bytesOk l) : ∃ c o : List Int, Ev (fun k => spec_DrawOwnersFit.f k l) (c, o) ∧ c.length ≤ 100 ∧ o.length ≤ 100 := by
  obtain ⟨p, c, w, o, e, h1, h2, h3, h4⟩ := spec_DrawTravelOf_ev l hl
  exact ⟨c, o, Ev.bind e (Ev.now _), h2, h4⟩

theorem picked_own {picks counts ways owners : List Int} (h : Picked picks counts ways) (hf : fitB counts owners = true) : ownF counts owners = (true, true) := by
  obtain ⟨h1, h2, h3, h4, h5, h6⟩ := h
  have hp := (flowOk_iff picks).mp h1
  unfold ownF
  rw [if_pos ⟨by omega, h3, by omega⟩, hf]
theorem travel_less {picks counts ways owners slots : List Int} (h : Picked picks counts ways) (es : slotsOf picks counts ways = slots) (ok : (travelF picks counts ways owners).2.2 = true) (ok2 : (travelF picks counts ways slots).2.2 = true) :
    lessF (travelF picks counts ways owners).1 (travelF picks counts ways owners).2.1 (travelF picks counts ways slots).1 (travelF picks counts ways slots).2.1 = (false, true) := by
  obtain ⟨b1, b2⟩ := slots_best h
  rw [es] at b1 b2
  have hf : fitB counts owners = true := by
    unfold travelF at ok; split at ok
    case isTrue hh => exact hh.2
    case isFalse => simp at ok
  have b3 := b2 owners hf
  obtain ⟨⟨d1, q1⟩, g1⟩ := travel_isD h hf ok
  obtain ⟨⟨d2, q2⟩, g2⟩ := travel_isD h b1 ok2
  unfold lessF
  rw [if_pos ((bothGood_iff _ _ _ _).mpr ⟨g1, g2⟩)]
  dsimp only at d1 q1 d2 q2
  revert d1 q1 d2 q2 b3
  generalize (travelF picks counts ways owners).1 = a
  generalize (travelF picks counts ways owners).2.1 = b
  generalize (travelF picks counts ways slots).1 = c
  generalize (travelF picks counts ways slots).2.1 = d
  generalize dot ways (owners.map (carD picks counts)) = s
  generalize dot ways (slots.map (carD picks counts)) = t
  intro b3 d1 q1 d2 q2
  have : ¬ a * d < c * b := by
    have e1 : a * d * 2520 = b * d * s := by
      rw [Int.mul_right_comm, q1, Int.mul_right_comm]
    have e2 : c * b * 2520 = b * d * t := by
      rw [Int.mul_right_comm, q2, Int.mul_comm b d, Int.mul_right_comm]
    have := Int.mul_le_mul_of_nonneg_left b3 (Int.mul_nonneg (show 0 ≤ b by omega) (show 0 ≤ d by omega))
    omega
  simp [this]
theorem slots_end (l : List Int) (hl : bytesOk l) (g : Nat → Option Bool)
    (hg : ∀ k, g k = ((spec_DrawOwnersFit.f k l).bind fun bt158 => ((impl_OwnersFit.f k bt158.1 bt158.2).bind fun bt164 => ((spec_OwnersFit.f k bt158.1 bt158.2).bind fun bt166 => (if (bt164.2 == bt166.2) = true then (some (bt164.1 == bt166.1)) else (some false)))))) : Ev g true := by
  obtain ⟨c, o, e, h1, h2⟩ := spec_DrawOwnersFit_ev l hl
  have : g = fun k => ((spec_DrawOwnersFit.f k l).bind fun bt158 => ((impl_OwnersFit.f k bt158.1 bt158.2).bind fun bt164 => ((spec_OwnersFit.f k bt158.1 bt158.2).bind fun bt166 => (if (bt164.2 == bt166.2) = true then (some (bt164.1 == bt166.1)) else (some false))))) := funext hg
  rw [this]
  exact Ev.bind e (Ev.bind (impl_OwnersFit_ev c o (by omega) (by omega)) (Ev.bind (spec_OwnersFit_ev c o (by omega) (by omega)) (Ev.pos (by simp) (Ev.to (Ev.now _) (by simp)))))
theorem FnSlots : laws_FnSlots.Pure := by
  intro l0 l1 _ hl0 hw0 _ hl1 hw1
  have b0 := bytesOk_of l0 hw0
  have b1 := bytesOk_of l1 hw1
  refine Ev.rounds (g := fun k => laws_FnSlots.f k l0 l1) ?_
  unfold laws_FnSlots.f
  refine Ev.ite (fun _ => Ev.now _) fun hlen => ?_
  obtain ⟨p, c, w, o, e, h1, h2, h3, h4⟩ := spec_DrawTravelOf_ev l0 b0
  have hI := impl_SlotsFor_ev p c w (by omega) (by omega) (by omega)
  have hS := spec_SlotsFor_ev p c w (by omega) (by omega) (by omega)
  have hlen2 := slotsFor_length p c w
  by_cases hp : Picked p c w
  · rw [if_pos hp] at hI hS hlen2
    generalize es : slotsOf p c w = s at hI hS hlen2
    have hf := (slots_best hp).1
    rw [es] at hf
    have ho := picked_own hp hf
    dsimp only at hlen2
    refine Ev.bind e (Ev.bind (impl_TravelOf_ev p c w o (by omega) (by omega) (by omega) (by omega)) (Ev.bind (spec_TravelOf_ev p c w o (by omega) (by omega) (by omega) (by omega)) (Ev.bind hI (Ev.bind hS ?_))))
    simp only [bne_self_eq_false, beq_self_eq_true, Bool.not_true, Bool.or_self, Bool.false_eq_true, if_false]
    refine Ev.bind (Ev.to (laws_sameInts_ev s s (by omega)) (decide_eq_true rfl)) (Ev.succ ?_)
    simp only [laws_FnSlots.j0, Bool.not_true, Bool.false_eq_true, if_false, if_true]
    have hO := impl_OwnersFit_ev c s (by omega) (by omega)
    rw [ho] at hO
    refine Ev.bind hO (Ev.bind (impl_TravelOf_ev p c w s (by omega) (by omega) (by omega) (by omega)) (Ev.pos rfl (Ev.succ ?_)))
    simp only [laws_FnSlots.j1, Bool.not_true, Bool.false_eq_true, if_false]
    refine Ev.ite (fun ok => Ev.succ ?_) (fun _ => Ev.succ ?_)
    · simp only [laws_FnSlots.j2]
      refine Ev.ite (fun ok2 => ?_) (fun _ => slots_end l1 b1 _ fun _ => rfl)
      refine Ev.bind (Ev.to (impl_LessFrac_ev _ _ _ _) (travel_less hp es ok ok2)) (Ev.pos rfl (Ev.succ ?_))
      simp only [laws_FnSlots.j3, Bool.false_eq_true, if_false]
      exact slots_end l1 b1 _ fun _ => rfl
    · simp only [laws_FnSlots.j2, Bool.false_eq_true, if_false]
      exact slots_end l1 b1 _ fun _ => rfl
  · rw [if_neg hp] at hI hS
    refine Ev.bind e (Ev.bind (impl_TravelOf_ev p c w o (by omega) (by omega) (by omega) (by omega)) (Ev.bind (spec_TravelOf_ev p c w o (by omega) (by omega) (by omega) (by omega)) (Ev.bind hI (Ev.bind hS ?_))))
    simp only [bne_self_eq_false, beq_self_eq_true, Bool.not_true, Bool.or_self, Bool.false_eq_true, if_false]
    refine Ev.bind (Ev.to (laws_sameInts_ev [] [] (by simp)) (decide_eq_true rfl)) (Ev.succ ?_)
    simp only [laws_FnSlots.j0, Bool.not_true, Bool.false_eq_true, if_false]
    exact slots_end l1 b1 _ fun _ => rfl
end Go.Proofs.Ytneojimdhnhkeaa.Pure
