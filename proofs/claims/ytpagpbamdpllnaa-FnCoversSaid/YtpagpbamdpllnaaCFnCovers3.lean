/- There is a cover as small as a matching is great, and no smaller one (Konig), for drawn fits: no condition but the statement's own. -/
import Derived.Test.YtpagpbamdpllnaaCFnCovers0
import Derived.Test.YtpagpbamdpllnaaCFnCovers2
import Derived.Test.YtpagpbamdpllnaaCFnCovers1
set_option linter.unusedVariables false
set_option linter.unusedSimpArgs false
namespace Go.Proofs.Ytpagpbamdpllnaa.Pure
open Go.RowKit Go.Proofs.Ytpagpbamdpllnaa.Print Go.Proofs.YtpagpbamdpllnaaW.PrintWords Go.Proofs.YtpagpbamdpllnaaW.PrintLast Go.Proofs.YtpagpbamdpllnaaW.PrintMore

theorem rep_one (x : Int) (n : Nat) (h : n ≤ 1048576) : slices_Repeat_int_int.f [x] (n : Int) = some (List.replicate n x) := by
  simp only [slices_Repeat_int_int.f]; rw [if_pos (by omega), toNat_nat]

def nbOf (fits : List (List Bool)) : Nat := (fits.getD 0 []).length
def rowOk (fits : List (List Bool)) (r : List Bool) : Bool := decide (r.length = nbOf fits) && decide (r.length ≤ 8)
def fitOk (fits : List (List Bool)) : Bool := decide (fits.length ≤ 8) && fits.all (rowOk fits)
def fitF (fits : List (List Bool)) (l b : Nat) : Bool := rdOf false (fits.getD l []) (b : Int)
theorem fits_rd (fits : List (List Bool)) (i : Nat) : rd_L7 fits (i : Int) = fits.getD i [] := by simp [rd_L7]
theorem fits_rd0 (fits : List (List Bool)) : rd_L7 fits 0 = fits.getD 0 [] := by simp [rd_L7]
theorem fits_get (fits : List (List Bool)) (i : Nat) (h : i < fits.length) : fits.getD i [] = fits[i] := by simp [h]
theorem fitOk_iff (fits : List (List Bool)) : fitOk fits = true ↔ fits.length ≤ 8 ∧ nbOf fits ≤ 8 ∧ ∀ i, i < fits.length → (fits.getD i []).length = nbOf fits := by
  simp only [fitOk, rowOk, Bool.and_eq_true, decide_eq_true_eq, List.all_eq_true]
  constructor
  · rintro ⟨h1, h2⟩
    refine ⟨h1, ?_, fun i hi => ?_⟩
    · rcases Nat.eq_zero_or_pos fits.length with h0 | h0
      · have : fits = [] := List.length_eq_zero_iff.mp h0
        subst this; simp [nbOf]
      · have := h2 fits[0] (List.getElem_mem h0)
        have e : nbOf fits = fits[0].length := by unfold nbOf; rw [fits_get fits 0 h0]
        omega
    · rw [fits_get fits i hi]; exact (h2 _ (List.getElem_mem hi)).1
  · rintro ⟨h1, h2, h3⟩
    refine ⟨h1, fun r hr => ?_⟩
    obtain ⟨i, hi, rfl⟩ := List.getElem_of_mem hr
    have := h3 i hi
    rw [fits_get fits i hi] at this
    omega

theorem impl_GoodFits_ev (fits : List (List Bool)) (h : fits.length ≤ 1048576) : Ev (fun k => impl_GoodFits.f k fits) (fitOk fits) := by
  unfold impl_GoodFits.f sl0_ContainsFunc.f sl2_IndexFunc.f
  by_cases h8 : (fits.length : Int) ≤ 8
  · refine Ev.pos h8 ?_
    obtain ⟨j, hj, hev⟩ := ev_indexFunc fits (rd_L7 fits) (fun i hi => by rw [fits_rd, fits_get fits i hi]) (fun _ x => impl_GoodFits_1.f x fits) (fun r => !rowOk fits r) (fun x hx => by
      have h0 : 0 < fits.length := List.length_pos_of_mem hx
      refine Ev.of_eq fun _ => ?_
      unfold impl_GoodFits_1.f
      by_cases hx8 : (x.length : Int) > 8
      · rw [if_pos hx8]; simp [rowOk]; omega
      · rw [if_neg hx8, if_pos (by omega), fits_rd0]
        have : decide (x.length ≤ 8) = true := by simp; omega
        have hd : ((x.length : Int) != ((fits.getD 0 []).length : Int)) = !decide (x.length = (fits.getD 0 []).length) := by
          by_cases e : x.length = (fits.getD 0 []).length
          · rw [e]; simp
          · rw [decide_eq_false e]; simp only [bne, Bool.not_false, Bool.not_eq_true']; exact beq_eq_false_iff_ne.mpr (by omega)
        rw [hd]; unfold rowOk nbOf; rw [this, Bool.and_true]) (fun k i => sl2_IndexFunc.l0 k fits (fits.length : Int) i fits) (fun k i => rfl) (by omega)
    refine Ev.to (Ev.bind (Ev.bind hev (Ev.now _)) (Ev.now _)) ?_
    rw [hj, any_not_all]; unfold fitOk
    rw [decide_eq_true (show fits.length ≤ 8 by omega)]; simp
  · refine Ev.to (Ev.neg h8 (Ev.now _)) ?_
    unfold fitOk; rw [decide_eq_false (by omega)]; rfl

theorem spec_GoodFits_ev (fits : List (List Bool)) (h : fits.length ≤ 1048576) : Ev (fun k => spec_GoodFits.f k fits) (fitOk fits) := by
  unfold spec_GoodFits.f
  have gen : ∀ (d i : Nat), i + d = fits.length → Ev (fun k => spec_GoodFits.l0 k fits fits (fits.length : Int) (i : Int)) ((fits.drop i).all (rowOk fits) && decide (fits.length ≤ 8)) := by
    intro d
    induction d with
    | zero =>
      intro i hi
      rw [List.drop_of_length_le (by omega)]
      refine Ev.succ ?_
      simp only [spec_GoodFits.l0]
      refine Ev.neg (by omega) (Ev.to (Ev.now _) ?_)
      simp; omega
    | succ d ih =>
      intro i hi
      have hi' : i < fits.length := by omega
      rw [List.drop_eq_getElem_cons hi', List.all_cons]
      refine Ev.succ ?_
      simp only [spec_GoodFits.l0]
      refine Ev.pos (by omega) (Ev.pos (by omega) (Ev.pos (by omega) (Ev.pos (by omega) ?_)))
      rw [fits_rd, fits_rd0, fits_get fits i hi', w64n hi' (by omega)]
      refine Ev.ite (fun h1 => Ev.ite (fun h2 => ?_) (fun h2 => ?_)) (fun h1 => ?_)
      · have : rowOk fits fits[i] = false := by unfold rowOk nbOf; rw [decide_eq_false (show ¬ fits[i].length ≤ 8 by omega)]; simp
        rw [this]; exact Ev.now _
      · have : rowOk fits fits[i] = true := by unfold rowOk nbOf; rw [decide_eq_true (show fits[i].length ≤ 8 by omega), decide_eq_true (by omega)]; rfl
        rw [this, Bool.true_and]; exact ih (i + 1) (by omega)
      · have : rowOk fits fits[i] = false := by unfold rowOk nbOf; rw [decide_eq_false (by omega)]; rfl
        rw [this]; exact Ev.now _
  refine Ev.to (gen fits.length 0 (by omega)) ?_
  unfold fitOk; rw [List.drop_zero, Bool.and_comm]

theorem spec_take_ev {fits : List (List Bool)} {nb l b : Nat} {o o' : List Int} {t t' : List Bool} {r : Bool} (hw : ∀ i, i < fits.length → (fits.getD i []).length = nb) (hb8 : nb ≤ 8) (h : Tk (fitF fits) nb l b o t r o' t') :
    b ≤ nb → o.length = nb → t.length = nb → l < fits.length → (∀ x : Nat, x < nb → -1 ≤ rd o (x : Int) ∧ rd o (x : Int) < fits.length) → Ev (fun k => spec_l8Take.l0 k fits (l : Int) o t (fits.getD l []) (nb : Int) (b : Int)) (r, o', t') := by
  have enter : ∀ {m : Nat} {o t r}, m < fits.length → Ev (fun k => spec_l8Take.l0 k fits (m : Int) o t (fits.getD m []) (nb : Int) ((0 : Nat) : Int)) r → Ev (fun k => spec_l8Take.f k fits (m : Int) o t) r := fun {m o t r} hm hE => by
    refine Ev.succ ?_
    simp only [spec_l8Take.f]
    refine Ev.pos (by omega) (Ev.pos (by omega) ?_)
    rw [fits_rd, hw m hm]; exact hE
  induction h with
  | done hb => intro _ _ _ _ _; refine Ev.succ ?_; simp only [spec_l8Take.l0]; exact Ev.neg (by omega) (Ev.now _)
  | @skip l b o o' t t' r hb hc hs ih =>
    intro _ ho ht hl hr
    have hi := ih (by omega) ho ht hl hr
    refine Ev.succ ?_
    simp only [spec_l8Take.l0]
    rw [w64n hb (by omega)]
    refine Ev.pos (by omega) (Ev.pos (by omega) (Ev.pos (by rw [hw l hl]; omega) (Ev.ite (fun hf => Ev.pos (by omega) (Ev.pos ?_ hi)) (fun _ => hi))))
    rcases hc with hc | hc
    · rw [show rdOf false (fits.getD l []) (b : Int) = fitF fits l b from rfl, hc] at hf; cases hf
    · exact hc
  | @free l b o t hb hf h0 hn =>
    intro _ ho ht hl hr
    refine Ev.succ ?_
    simp only [spec_l8Take.l0]
    refine Ev.pos (by omega) (Ev.pos (by omega) (Ev.pos (by rw [hw l hl]; omega) (Ev.pos hf (Ev.pos (by omega) (Ev.neg (by rw [h0]; simp) (Ev.bind0 rfl (Ev.pos (by omega) (Ev.pos hn (Ev.to (Ev.now _) ?_)))))))))
    rw [toNat_nat]
  | @push l b m o o' t t' hb hf h0 hm hs ih =>
    intro _ ho ht hl hr
    have hml : m < fits.length := by have := (hr b hb).2; omega
    have hi := enter hml (ih (Nat.zero_le _) ho (by simpa using ht) hml hr)
    refine Ev.succ ?_
    simp only [spec_l8Take.l0]
    refine Ev.pos (by omega) (Ev.pos (by omega) (Ev.pos (by rw [hw l hl]; omega) (Ev.pos hf (Ev.pos (by omega) (Ev.neg (by rw [h0]; simp) (Ev.bind0 rfl (Ev.pos (by omega) (Ev.neg (by omega) ?_))))))))
    rw [toNat_nat, hm]
    exact Ev.bind hi (Ev.pos rfl (Ev.now _))
  | @fail l b m o o' o'' t t' t'' r hb hf h0 hm hs hq ih1 ih2 =>
    intro _ ho ht hl hr
    have hml : m < fits.length := by have := (hr b hb).2; omega
    have ln := hs.len
    simp only [List.length_set] at ln
    have hi := enter hml (ih1 (Nat.zero_le _) ho (by simpa using ht) hml hr)
    have hj := ih2 (by omega) (by omega) (by omega) hl (hs.rng ho hml hr)
    refine Ev.succ ?_
    simp only [spec_l8Take.l0]
    refine Ev.pos (by omega) (Ev.pos (by omega) (Ev.pos (by rw [hw l hl]; omega) (Ev.pos hf (Ev.pos (by omega) (Ev.neg (by rw [h0]; simp) (Ev.bind0 rfl (Ev.pos (by omega) (Ev.neg (by omega) ?_))))))))
    rw [toNat_nat, hm, w64n hb (by omega)]
    exact Ev.bind hi (Ev.neg (by simp) hj)

theorem impl_take_ev {fits : List (List Bool)} {nb l b : Nat} {o o' : List Int} {t t' : List Bool} {r : Bool} (hw : ∀ i, i < fits.length → (fits.getD i []).length = nb) (hb8 : nb ≤ 8) (h : Tk (fitF fits) nb l b o t r o' t') :
    b ≤ nb → o.length = nb → t.length = nb → l < fits.length → (∀ x : Nat, x < nb → -1 ≤ rd o (x : Int) ∧ rd o (x : Int) < fits.length) → Ev (fun k => impl_matcher_take_own.l0 k (l : Int) t (fits.getD l []) (nb : Int) (b : Int) fits o) (r, o', t') := by
  have enter : ∀ {m : Nat} {o t r}, m < fits.length → Ev (fun k => impl_matcher_take_own.l0 k (m : Int) t (fits.getD m []) (nb : Int) ((0 : Nat) : Int) fits o) r → Ev (fun k => impl_matcher_take_own.f k fits o (m : Int) t) r := fun {m o t r} hm hE => by
    refine Ev.succ ?_
    simp only [impl_matcher_take_own.f]
    refine Ev.pos (by omega) (Ev.pos (by omega) ?_)
    rw [fits_rd, hw m hm]; exact hE
  induction h with
  | done hb => intro _ _ _ _ _; refine Ev.succ ?_; simp only [impl_matcher_take_own.l0]; exact Ev.neg (by omega) (Ev.now _)
  | @skip l b o o' t t' r hb hc hs ih =>
    intro _ ho ht hl hr
    have hi := ih (by omega) ho ht hl hr
    refine Ev.succ ?_
    simp only [impl_matcher_take_own.l0]
    rw [w64n hb (by omega)]
    refine Ev.pos (by omega) (Ev.pos (by omega) (Ev.pos (by rw [hw l hl]; omega) (Ev.ite (fun hf => Ev.pos (by omega) (Ev.pos ?_ hi)) (fun _ => hi))))
    rcases hc with hc | hc
    · rw [show rdOf false (fits.getD l []) (b : Int) = fitF fits l b from rfl, hc] at hf; cases hf
    · exact hc
  | @free l b o t hb hf h0 hn =>
    intro _ ho ht hl hr
    refine Ev.succ ?_
    simp only [impl_matcher_take_own.l0]
    refine Ev.pos (by omega) (Ev.pos (by omega) (Ev.pos (by rw [hw l hl]; omega) (Ev.pos hf (Ev.pos (by omega) (Ev.neg (by rw [h0]; simp) (Ev.bind0 rfl (Ev.pos (by omega) (Ev.pos hn (Ev.to (Ev.now _) ?_)))))))))
    rw [toNat_nat]
  | @push l b m o o' t t' hb hf h0 hm hs ih =>
    intro _ ho ht hl hr
    have hml : m < fits.length := by have := (hr b hb).2; omega
    have hi := enter hml (ih (Nat.zero_le _) ho (by simpa using ht) hml hr)
    refine Ev.succ ?_
    simp only [impl_matcher_take_own.l0]
    refine Ev.pos (by omega) (Ev.pos (by omega) (Ev.pos (by rw [hw l hl]; omega) (Ev.pos hf (Ev.pos (by omega) (Ev.neg (by rw [h0]; simp) (Ev.bind0 rfl (Ev.pos (by omega) (Ev.neg (by omega) ?_))))))))
    rw [toNat_nat, hm]
    exact Ev.bind hi (Ev.pos rfl (Ev.now _))
  | @fail l b m o o' o'' t t' t'' r hb hf h0 hm hs hq ih1 ih2 =>
    intro _ ho ht hl hr
    have hml : m < fits.length := by have := (hr b hb).2; omega
    have ln := hs.len
    simp only [List.length_set] at ln
    have hi := enter hml (ih1 (Nat.zero_le _) ho (by simpa using ht) hml hr)
    have hj := ih2 (by omega) (by omega) (by omega) hl (hs.rng ho hml hr)
    refine Ev.succ ?_
    simp only [impl_matcher_take_own.l0]
    refine Ev.pos (by omega) (Ev.pos (by omega) (Ev.pos (by rw [hw l hl]; omega) (Ev.pos hf (Ev.pos (by omega) (Ev.neg (by rw [h0]; simp) (Ev.bind0 rfl (Ev.pos (by omega) (Ev.neg (by omega) ?_))))))))
    rw [toNat_nat, hm, w64n hb (by omega)]
    exact Ev.bind hi (Ev.neg (by simp) hj)

def matchAt (o : List Int) (n : Nat) : Nat → List Int
  | 0 => List.replicate n (-1)
  | i + 1 => if rd o (i : Int) ≥ 0 then (matchAt o n i).set (rd o (i : Int)).toNat (i : Int) else matchAt o n i
theorem matchAt_len (o : List Int) (n i : Nat) : (matchAt o n i).length = n := by
  induction i with
  | zero => simp [matchAt]
  | succ i ih => simp only [matchAt]; split <;> simp [ih]
theorem matchAt_none {o : List Int} {n l : Nat} (hl : l < n) : ∀ i, (∀ b : Nat, b < i → rd o (b : Int) ≠ (l : Int)) → rd (matchAt o n i) (l : Int) = -1 := by
  intro i
  induction i with
  | zero => intro _; simp only [matchAt]; exact rd_rep n l (-1) hl
  | succ i ih =>
    intro h
    have h1 := ih fun b hb => h b (by omega)
    have h2 := h i (by omega)
    simp only [matchAt]
    by_cases hp : rd o (i : Int) ≥ 0
    · rw [if_pos hp]
      obtain ⟨m, hm⟩ := exists_nat_of_nonneg hp
      rw [hm, toNat_nat]
      by_cases hmn : m < n
      · rw [rd_setn _ _ _ _ (by rw [matchAt_len]; exact hmn), if_neg (by omega)]; exact h1
      · rw [List.set_eq_of_length_le (by rw [matchAt_len]; omega)]; exact h1
    · rw [if_neg hp]; exact h1
theorem matchAt_some {o : List Int} {n l b : Nat} (hl : l < n) (nb : Nat) (hinj : ∀ (x y m : Nat), x < nb → y < nb → rd o (x : Int) = (m : Int) → rd o (y : Int) = (m : Int) → x = y) :
    ∀ i, i ≤ nb → b < i → rd o (b : Int) = (l : Int) → rd (matchAt o n i) (l : Int) = (b : Int) := by
  intro i
  induction i with
  | zero => intro _ h; omega
  | succ i ih =>
    intro hi hb he
    simp only [matchAt]
    by_cases hp : rd o (i : Int) ≥ 0
    · rw [if_pos hp]
      obtain ⟨m, hm⟩ := exists_nat_of_nonneg hp
      rw [hm, toNat_nat]
      by_cases hml : m = l
      · subst hml
        have : i = b := hinj i b m (by omega) (by omega) hm he
        subst this
        rw [rd_setn _ _ _ _ (by rw [matchAt_len]; exact hl), if_pos rfl]
      · have hbi : b < i := by
          rcases Nat.lt_or_ge b i with h | h
          · exact h
          · obtain rfl : b = i := by omega
            omega
        by_cases hmn : m < n
        · rw [rd_setn _ _ _ _ (by rw [matchAt_len]; exact hmn), if_neg (by omega)]; exact ih (by omega) hbi he
        · rw [List.set_eq_of_length_le (by rw [matchAt_len]; omega)]; exact ih (by omega) hbi he
    · rw [if_neg hp]
      refine ih (by omega) ?_ he
      rcases Nat.lt_or_ge b i with h | h
      · exact h
      · obtain rfl : b = i := by omega
        omega

theorem impl_matching_ev (o : List Int) (n nb : Nat) (hn : n ≤ 8) (hb : nb ≤ 8) (ho : o.length = nb) (hr : ∀ x : Nat, x < nb → -1 ≤ rd o (x : Int) ∧ rd o (x : Int) < n) : Ev (fun k => impl_matching.f k (n : Int) o) (matchAt o n nb) := by
  unfold impl_matching.f
  refine Ev.bind0 (rep_one (-1) n (by omega)) ?_
  rw [ho]
  refine ev_up nb (fun k i => impl_matching.l0 k (matchAt o n i) o (nb : Int) (i : Int)) _ (fun _ => True) trivial ?_ ?_
  · intro _; refine Ev.succ ?_; simp only [impl_matching.l0]; exact Ev.neg (by omega) (Ev.now _)
  · intro i hi _ hnx
    have hnx := hnx trivial
    have := hr i hi
    refine Ev.succ ?_
    simp only [impl_matching.l0]
    rw [w64n hi (by omega)]
    simp only [matchAt] at hnx
    refine Ev.pos (by omega) (Ev.pos (by omega) (Ev.pos (by omega) (Ev.ite (fun hp => ?_) (fun hp => ?_))))
    · rw [if_pos hp] at hnx
      exact Ev.pos hp (Ev.pos (by rw [matchAt_len]; omega) hnx)
    · rw [if_neg hp] at hnx; exact hnx

theorem impl_binsOf_eq (fits : List (List Bool)) : impl_binsOf.f fits = some (nbOf fits : Int) := by
  unfold impl_binsOf.f
  by_cases h : (fits.length : Int) = 0
  · rw [if_pos h]
    have : fits = [] := List.length_eq_zero_iff.mp (by omega)
    subst this; rfl
  · rw [if_neg h, if_pos (by omega), fits_rd0]; rfl
theorem impl_matched_ev (fits : List (List Bool)) (hg : fitOk fits = true) {o : List Int} (hK : Ks (fitF fits) (nbOf fits) fits.length 0 (List.replicate (nbOf fits) (-1)) o) : Ev (fun k => impl_matched.f k fits) o := by
  obtain ⟨h8, hb8, hw⟩ := (fitOk_iff fits).mp hg
  unfold impl_matched.f
  refine Ev.bind0 (impl_binsOf_eq fits) (Ev.bind0 (rep_one (-1) (nbOf fits) (by omega)) ?_)
  have gen : ∀ {j : Nat} {o o' : List Int}, Ks (fitF fits) (nbOf fits) fits.length j o o' → o.length = nbOf fits → (∀ x : Nat, x < nbOf fits → -1 ≤ rd o (x : Int) ∧ rd o (x : Int) < fits.length) → Ev (fun k => impl_matched.l0 k (fits.length : Int) (j : Int) fits o) o' := by
    intro j o o' h
    induction h with
    | done hj => intro _ _; refine Ev.succ ?_; simp only [impl_matched.l0]; exact Ev.neg (by omega) (Ev.now _)
    | @step j o o' o'' t' r hj ht hk ih =>
      intro ho hr
      have ln := ht.len
      have e := impl_take_ev hw hb8 ht (Nat.zero_le _) ho (by simp) hj hr
      refine Ev.succ ?_
      simp only [impl_matched.l0]
      rw [w64n hj (by omega), toNat_nat, ho]
      refine Ev.pos (by omega) (Ev.pos (by omega) (Ev.pos (by omega) (Ev.bind (a := (r, o', t')) ?_ (ih (by omega) (ht.rng ho hj hr)))))
      refine Ev.succ ?_
      simp only [impl_matcher_take_own.f]
      refine Ev.pos (by omega) (Ev.pos (by omega) ?_)
      rw [fits_rd, hw j hj]; exact e
  exact gen hK (by simp) (fun x hx => by rw [rd_rep _ _ _ hx]; omega)

theorem spec_l8Bins_eq (fits : List (List Bool)) : spec_l8Bins.f fits = some (nbOf fits : Int) := by
  unfold spec_l8Bins.f
  by_cases h : (fits.length : Int) = 0
  · rw [if_pos h]
    have : fits = [] := List.length_eq_zero_iff.mp (by omega)
    subst this; rfl
  · rw [if_neg h, if_pos (by omega), fits_rd0]; rfl
theorem spec_l8Match_ev (fits : List (List Bool)) (hg : fitOk fits = true) {o : List Int} (hK : Ks (fitF fits) (nbOf fits) fits.length 0 (List.replicate (nbOf fits) (-1)) o) : Ev (fun k => spec_l8Match.f k fits) (matchAt o fits.length (nbOf fits)) := by
  obtain ⟨h8, hb8, hw⟩ := (fitOk_iff fits).mp hg
  unfold spec_l8Match.f
  refine Ev.bind0 (spec_l8Bins_eq fits) ?_
  -- the tail
  have tail : ∀ (o : List Int), o.length = nbOf fits → (∀ x : Nat, x < nbOf fits → -1 ≤ rd o (x : Int) ∧ rd o (x : Int) < fits.length) → Ev (fun k => spec_l8Match.l2 k o (List.replicate fits.length 0) (fits.length : Int) ((0 : Nat) : Int)) (matchAt o fits.length (nbOf fits)) := by
    intro o ho hr
    have fill := ev_up fits.length (fun k i => spec_l8Match.l2 k o (List.replicate i (-1) ++ List.replicate (fits.length - i) 0) (fits.length : Int) (i : Int)) (matchAt o fits.length (nbOf fits)) (fun _ => True) trivial ?_ ?_
    · simpa using fill
    · intro _
      refine Ev.succ ?_
      simp only [spec_l8Match.l2]
      refine Ev.neg (by omega) ?_
      rw [Nat.sub_self, List.replicate_zero, List.append_nil, ho]
      refine ev_up (nbOf fits) (fun k i => spec_l8Match.l3 k (matchAt o fits.length i) o (nbOf fits : Int) (i : Int)) _ (fun _ => True) trivial ?_ ?_
      · intro _; refine Ev.succ ?_; simp only [spec_l8Match.l3]; exact Ev.neg (by omega) (Ev.now _)
      · intro i hi _ hnx
        have hnx := hnx trivial
        have := hr i hi
        refine Ev.succ ?_
        simp only [spec_l8Match.l3]
        rw [w64n hi (by omega)]
        simp only [matchAt] at hnx
        refine Ev.pos (by omega) (Ev.pos (by omega) (Ev.pos (by omega) (Ev.ite (fun hp => ?_) (fun hp => ?_))))
        · rw [if_pos hp] at hnx
          exact Ev.pos hp (Ev.pos (by rw [matchAt_len]; omega) hnx)
        · rw [if_neg hp] at hnx; exact hnx
    · intro i hi _ hnx
      have hnx := hnx trivial
      refine Ev.succ ?_
      simp only [spec_l8Match.l2]
      rw [w64n hi (by omega), toNat_nat]
      refine Ev.pos (by omega) (Ev.pos (by omega) (Ev.pos (by simp; omega) ?_))
      have e : (List.replicate i (-1 : Int) ++ List.replicate (fits.length - i) 0).set i (-1) = List.replicate (i + 1) (-1) ++ List.replicate (fits.length - (i + 1)) 0 := by
        rw [List.set_append_right _ _ (by simp), List.length_replicate, Nat.sub_self, show fits.length - i = (fits.length - (i + 1)) + 1 by omega, List.replicate_succ, List.set_cons_zero, List.replicate_succ', List.append_assoc]; rfl
      rw [e]; exact hnx
  have loads : ∀ {j : Nat} {o o' : List Int}, Ks (fitF fits) (nbOf fits) fits.length j o o' → o.length = nbOf fits → (∀ x : Nat, x < nbOf fits → -1 ≤ rd o (x : Int) ∧ rd o (x : Int) < fits.length) → Ev (fun k => spec_l8Match.l1 k fits o (fits.length : Int) (j : Int)) (matchAt o' fits.length (nbOf fits)) := by
    intro j o o' h
    induction h with
    | @done j o hj =>
      intro ho hr
      refine Ev.succ ?_
      simp only [spec_l8Match.l1]
      refine Ev.neg (by omega) (Ev.pos (by omega) (Ev.pos (by omega) (Ev.bind0 rfl ?_)))
      rw [toNat_nat, List.length_replicate]
      exact tail o ho hr
    | @step j o o' o'' t' r hj ht hk ih =>
      intro ho hr
      have ln := ht.len
      have e := spec_take_ev hw hb8 ht (Nat.zero_le _) ho (by simp) hj hr
      refine Ev.succ ?_
      simp only [spec_l8Match.l1]
      rw [w64n hj (by omega), toNat_nat, ho]
      refine Ev.pos (by omega) (Ev.pos (by omega) (Ev.pos (by omega) (Ev.bind (a := (r, o', t')) ?_ (ih (by omega) (ht.rng ho hj hr)))))
      refine Ev.succ ?_
      simp only [spec_l8Take.f]
      refine Ev.pos (by omega) (Ev.pos (by omega) ?_)
      rw [fits_rd, hw j hj]; exact e
  have bins : ∀ (d i : Nat), i + d = nbOf fits → Ev (fun k => spec_l8Match.l0 k fits (List.replicate i (-1)) (d : Int)) (matchAt o fits.length (nbOf fits)) := by
    intro d
    induction d with
    | zero =>
      intro i hi
      obtain rfl : i = nbOf fits := by omega
      refine Ev.succ ?_
      simp only [spec_l8Match.l0]
      refine Ev.neg (by omega) ?_
      exact loads hK (by simp) (fun x hx => by rw [rd_rep _ _ _ hx]; omega)
    | succ d ih =>
      intro i hi
      refine Ev.succ ?_
      simp only [spec_l8Match.l0]
      rw [w64 (by omega) (by omega), show ((d + 1 : Nat) : Int) - 1 = (d : Int) by omega]
      refine Ev.pos (by omega) (Ev.pos (by simp; omega) ?_)
      have := ih (i + 1) (by omega)
      rwa [List.replicate_succ'] at this
  exact bins (nbOf fits) 0 (by omega)

def matchF (fits : List (List Bool)) (o : List Int) : List Int × Bool := if fitOk fits = true then (matchAt o fits.length (nbOf fits), true) else ([], false)
theorem impl_MatchLoads_ev (fits : List (List Bool)) (h : fits.length ≤ 1048576) {o : List Int} (hK : Ks (fitF fits) (nbOf fits) fits.length 0 (List.replicate (nbOf fits) (-1)) o) (hk : Kuhn (fitF fits) (nbOf fits) fits.length o) : Ev (fun k => impl_MatchLoads.f k fits) (matchF fits o) := by
  unfold impl_MatchLoads.f matchF
  refine Ev.bind (impl_GoodFits_ev fits h) (Ev.ite (fun hg => ?_) (fun hg => by rw [if_neg hg]; exact Ev.now _))
  rw [if_pos hg]
  obtain ⟨h8, hb8, hw⟩ := (fitOk_iff fits).mp hg
  exact Ev.bind (impl_matched_ev fits hg hK) (Ev.bind (impl_matching_ev o fits.length (nbOf fits) h8 hb8 hk.len hk.rng) (Ev.now _))

inductive RL (F : Nat → Nat → Bool) (nb n : Nat) (o : List Int) : Nat → Prop where
  | start {l : Nat} : l < n → (∀ x : Nat, x < nb → rd o (x : Int) ≠ (l : Int)) → RL F nb n o l
  | next {l y m : Nat} : RL F nb n o l → y < nb → F l y = true → rd o (y : Int) = (m : Int) → RL F nb n o m
def RB (F : Nat → Nat → Bool) (nb n : Nat) (o : List Int) (y : Nat) : Prop := y < nb ∧ ∃ l, RL F nb n o l ∧ F l y = true
theorem RL.lt {F : Nat → Nat → Bool} {nb n : Nat} {o : List Int} (hr : ∀ x : Nat, x < nb → -1 ≤ rd o (x : Int) ∧ rd o (x : Int) < n) {l : Nat} (h : RL F nb n o l) : l < n := by
  cases h with
  | start h _ => exact h
  | next _ hy _ hm => have := hr _ hy; omega
structure IsReach (F : Nat → Nat → Bool) (nb n : Nat) (o : List Int) (ls bs : List Bool) : Prop where
  ll : ls.length = n
  lb : bs.length = nb
  rl : ∀ l : Nat, l < n → (rdOf false ls (l : Int) = true ↔ RL F nb n o l)
  rb : ∀ y : Nat, y < nb → (rdOf false bs (y : Int) = true ↔ RB F nb n o y)
theorem bools_ext {a b : List Bool} (h : a.length = b.length) (he : ∀ i : Nat, i < a.length → (rdOf false a (i : Int) = true ↔ rdOf false b (i : Int) = true)) : a = b := by
  apply List.ext_getElem h
  intro i h1 h2
  have := he i h1
  rw [rdOf_nat _ _ i h1, rdOf_nat _ _ i h2] at this
  exact Bool.eq_iff_iff.mpr this
theorem IsReach.uniq {F : Nat → Nat → Bool} {nb n : Nat} {o : List Int} {ls bs ls' bs' : List Bool} (h : IsReach F nb n o ls bs) (h' : IsReach F nb n o ls' bs') : ls = ls' ∧ bs = bs' :=
  ⟨bools_ext (by rw [h.ll, h'.ll]) (fun i hi => by rw [h.ll] at hi; rw [h.rl i hi, h'.rl i hi]), bools_ext (by rw [h.lb, h'.lb]) (fun i hi => by rw [h.lb] at hi; rw [h.rb i hi, h'.rb i hi])⟩
structure Sound (F : Nat → Nat → Bool) (nb n : Nat) (o : List Int) (ls bs : List Bool) : Prop where
  ll : ls.length = n
  lb : bs.length = nb
  sl : ∀ l : Nat, l < n → rdOf false ls (l : Int) = true → RL F nb n o l
  sb : ∀ y : Nat, y < nb → rdOf false bs (y : Int) = true → RB F nb n o y
  st : ∀ l : Nat, l < n → (∀ x : Nat, x < nb → rd o (x : Int) ≠ (l : Int)) → rdOf false ls (l : Int) = true
theorem Sound.setl {F : Nat → Nat → Bool} {nb n : Nat} {o : List Int} {ls bs : List Bool} (h : Sound F nb n o ls bs) {l : Nat} (hl : l < n) (hr : RL F nb n o l) : Sound F nb n o (ls.set l true) bs := by
  refine ⟨by rw [List.length_set]; exact h.ll, h.lb, fun i hi h2 => ?_, h.sb, fun i hi h2 => ?_⟩
  · rw [rdOf_setn _ _ _ _ (by rw [h.ll]; exact hl)] at h2
    by_cases e : i = l
    · rw [e]; exact hr
    · rw [if_neg e] at h2; exact h.sl i hi h2
  · rw [rdOf_setn _ _ _ _ (by rw [h.ll]; exact hl)]; split
    · rfl
    · exact h.st i hi h2
theorem Sound.setb {F : Nat → Nat → Bool} {nb n : Nat} {o : List Int} {ls bs : List Bool} (h : Sound F nb n o ls bs) {y : Nat} (hy : y < nb) (hr : RB F nb n o y) : Sound F nb n o ls (bs.set y true) := by
  refine ⟨h.ll, by rw [List.length_set]; exact h.lb, h.sl, fun i hi h2 => ?_, h.st⟩
  rw [rdOf_setn _ _ _ _ (by rw [h.lb]; exact hy)] at h2
  by_cases e : i = y
  · rw [e]; exact hr
  · rw [if_neg e] at h2; exact h.sb i hi h2
theorem Sound.closed {F : Nat → Nat → Bool} {nb n : Nat} {o : List Int} {ls bs : List Bool} (hr : ∀ x : Nat, x < nb → -1 ≤ rd o (x : Int) ∧ rd o (x : Int) < n) (h : Sound F nb n o ls bs) (h1 : ∀ l : Nat, l < n → rdOf false ls (l : Int) = true → ∀ y : Nat, y < nb → F l y = true → rdOf false bs (y : Int) = true)
    (h2 : ∀ y : Nat, y < nb → rdOf false bs (y : Int) = true → ∀ m : Nat, rd o (y : Int) = (m : Int) → rdOf false ls (m : Int) = true) : IsReach F nb n o ls bs := by
  have all : ∀ l, RL F nb n o l → rdOf false ls (l : Int) = true := by
    intro l hl
    induction hl with
    | start hl hu => exact h.st _ hl hu
    | next hp hy hf hm ih => exact h2 _ hy (h1 _ (RL.lt hr hp) ih _ hy hf) _ hm
  exact ⟨h.ll, h.lb, fun l hl => ⟨h.sl l hl, all l⟩, fun y hy => ⟨h.sb y hy, fun ⟨_, l, hl, hf⟩ => h1 l (RL.lt hr hl) (all l hl) y hy hf⟩⟩
theorem cnt_set (bs : List Bool) {y nb : Nat} (hy : y < nb) (hl : bs.length = nb) (h0 : rdOf false bs (y : Int) = false) : cnt (fun i => !rdOf false bs (i : Int)) nb = cnt (fun i => !rdOf false (bs.set y true) (i : Int)) nb + 1 := by
  rw [cnt_out hy (by rw [h0]; rfl)]
  congr 1
  refine cnt_congr fun i hi => ?_
  rw [rdOf_setn _ _ _ _ (by omega)]; split <;> simp_all
theorem matchAt_iff {F : Nat → Nat → Bool} {nb n : Nat} {o : List Int} (hk : Kuhn F nb n o) {l b : Nat} (hl : l < n) (hb : b < nb) : rd (matchAt o n nb) (l : Int) = (b : Int) ↔ rd o (b : Int) = (l : Int) := by
  constructor
  · intro h
    by_cases hx : ∃ x : Nat, x < nb ∧ rd o (x : Int) = (l : Int)
    · obtain ⟨x, hx, he⟩ := hx
      have := matchAt_some hl nb hk.inj nb (Nat.le_refl _) hx he
      obtain rfl : x = b := by omega
      exact he
    · have := matchAt_none (o := o) hl nb fun x hx2 he => hx ⟨x, hx2, he⟩
      omega
  · intro h; exact matchAt_some hl nb hk.inj nb (Nat.le_refl _) hb h
theorem matchAt_neg {F : Nat → Nat → Bool} {nb n : Nat} {o : List Int} (hk : Kuhn F nb n o) {l : Nat} (hl : l < n) : rd (matchAt o n nb) (l : Int) < 0 ↔ ∀ x : Nat, x < nb → rd o (x : Int) ≠ (l : Int) := by
  constructor
  · intro h x hx he
    have := matchAt_some hl nb hk.inj nb (Nat.le_refl _) hx he
    omega
  · intro h
    have := matchAt_none (o := o) hl nb h
    omega

theorem impl_reached_ev (fits : List (List Bool)) (hg : fitOk fits = true) {o : List Int} (hK : Ks (fitF fits) (nbOf fits) fits.length 0 (List.replicate (nbOf fits) (-1)) o) (hk : Kuhn (fitF fits) (nbOf fits) fits.length o) :
    ∃ ls bs, Ev (fun k => impl_reached.f k fits) (ls, bs) ∧ IsReach (fitF fits) (nbOf fits) fits.length o ls bs := by
  obtain ⟨h8, hb8, hw⟩ := (fitOk_iff fits).mp hg
  generalize hnb : nbOf fits = nb at *
  generalize hn : fits.length = n at *
  -- the queue
  have main : ∀ (u : Nat) (ls bs : List Bool) (q : List Int), Sound (fitF fits) nb n o ls bs → 2 * cnt (fun i => !rdOf false bs (i : Int)) nb + q.length = u → q.length ≤ 1000 + 2 * nb →
      (∀ z ∈ q, ∃ l : Nat, z = (l : Int) ∧ l < n ∧ rdOf false ls (l : Int) = true) →
      (∀ l : Nat, l < n → rdOf false ls (l : Int) = true → (l : Int) ∈ q ∨ ∀ y : Nat, y < nb → fitF fits l y = true → rdOf false bs (y : Int) = true) →
      (∀ y : Nat, y < nb → rdOf false bs (y : Int) = true → ∀ m : Nat, rd o (y : Int) = (m : Int) → rdOf false ls (m : Int) = true) → 
      q.length + 2 * cnt (fun i => !rdOf false bs (i : Int)) nb ≤ 100 →
      ∃ ls' bs', Ev (fun k => impl_reached.l1 k fits o ls bs q) (ls', bs') ∧ IsReach (fitF fits) nb n o ls' bs' := by
    intro u
    induction u using Nat.strongRecOn with
    | _ u ih =>
      intro ls bs q hS hu _ hq hc1 hc2 hsm
      cases q with
      | nil =>
        refine ⟨ls, bs, ?_, hS.closed hk.rng (fun l hl h => ?_) hc2⟩
        · refine Ev.succ ?_; simp only [impl_reached.l1]; exact Ev.neg (by simp) (Ev.now _)
        · rcases hc1 l hl h with h | h
          · cases h
          · exact h
      | cons z0 q0 =>
        obtain ⟨h, rfl, hhn, hhl⟩ := hq z0 (by simp)
        -- the bins of the first of the queue
        have inner : ∀ (d b : Nat) (ls bs : List Bool) (q1 : List Int), b + d = nb → Sound (fitF fits) nb n o ls bs → 2 * cnt (fun i => !rdOf false bs (i : Int)) nb + (q1.length + 1) ≤ u →
            (∀ z ∈ q1, ∃ l : Nat, z = (l : Int) ∧ l < n ∧ rdOf false ls (l : Int) = true) →
            (∀ l : Nat, l < n → rdOf false ls (l : Int) = true → l = h ∨ (l : Int) ∈ q1 ∨ ∀ y : Nat, y < nb → fitF fits l y = true → rdOf false bs (y : Int) = true) →
            (∀ y : Nat, y < nb → rdOf false bs (y : Int) = true → ∀ m : Nat, rd o (y : Int) = (m : Int) → rdOf false ls (m : Int) = true) →
            rdOf false ls (h : Int) = true → (∀ y : Nat, y < b → fitF fits h y = true → rdOf false bs (y : Int) = true) → q1.length + 1 + 2 * cnt (fun i => !rdOf false bs (i : Int)) nb ≤ 100 →
            ∃ ls' bs', Ev (fun k => impl_reached.l2 k fits o ls bs ((h : Int) :: q1) (fits.getD h []) (nb : Int) (b : Int)) (ls', bs') ∧ IsReach (fitF fits) nb n o ls' bs' := by
          intro d
          induction d with
          | zero =>
            intro b ls bs q1 hb hS hu hq hc1 hc2 hh hy hsm
            obtain ⟨ls', bs', hE, hR⟩ := ih (2 * cnt (fun i => !rdOf false bs (i : Int)) nb + q1.length) (by omega) ls bs q1 hS rfl (by omega) hq (fun l hl h1 => by
              rcases hc1 l hl h1 with h2 | h2 | h2
              · subst h2; exact .inr fun y hy2 hf => hy y (by omega) hf
              · exact .inl h2
              · exact .inr h2) hc2 (by omega)
            refine ⟨ls', bs', ?_, hR⟩
            refine Ev.succ ?_
            simp only [impl_reached.l2]
            exact Ev.neg (by omega) (Ev.pos (by simp; omega) hE)
          | succ d ihd =>
            intro b ls bs q1 hb hS hu hq hc1 hc2 hh hy hsm
            have hb' : b < nb := by omega
            by_cases hf : fitF fits h b = true
            · by_cases hm : rdOf false bs (b : Int) = true
              · obtain ⟨ls', bs', hE, hR⟩ := ihd (b + 1) ls bs q1 (by omega) hS hu hq hc1 hc2 hh (fun y hy2 hf2 => by
                  rcases Nat.lt_or_ge y b with h3 | h3
                  · exact hy y h3 hf2
                  · obtain rfl : y = b := by omega
                    exact hm) hsm
                refine ⟨ls', bs', ?_, hR⟩
                refine Ev.succ ?_
                simp only [impl_reached.l2]
                rw [w64n hb' (by omega)]
                exact Ev.pos (by omega) (Ev.pos (by omega) (Ev.pos (by rw [hw h hhn]; omega) (Ev.pos hf (Ev.pos (by rw [hS.lb]; omega) (Ev.pos hm hE)))))
              · have hm0 : rdOf false bs (b : Int) = false := by simpa using hm
                have hrb : RB (fitF fits) nb n o b := ⟨hb', h, hS.sl h hhn hh, hf⟩
                have hS1 := hS.setb hb' hrb
                have hcs := cnt_set bs hb' hS.lb hm0
                have eb : ∀ y : Nat, rdOf false (bs.set b true) (y : Int) = if y = b then true else rdOf false bs (y : Int) := fun y => rdOf_setn _ _ _ _ (by rw [hS.lb]; exact hb')
                have hy1 : ∀ y : Nat, y < b + 1 → fitF fits h y = true → rdOf false (bs.set b true) (y : Int) = true := fun y hy2 hf2 => by
                  rw [eb]; split
                  · rfl
                  · exact hy y (by omega) hf2
                have up : ∀ {y : Nat}, rdOf false bs (y : Int) = true → rdOf false (bs.set b true) (y : Int) = true := fun {y} h3 => by rw [eb]; split <;> simp_all
                have hr := hk.rng b hb'
                by_cases hp : rd o (b : Int) ≥ 0
                · obtain ⟨m, hmo⟩ := exists_nat_of_nonneg hp
                  have hmn : m < n := by omega
                  by_cases hml : rdOf false ls (m : Int) = true
                  · obtain ⟨ls', bs', hE, hR⟩ := ihd (b + 1) ls (bs.set b true) q1 (by omega) hS1 (by omega) hq (fun l hl h1 => by
                      rcases hc1 l hl h1 with h2 | h2 | h2
                      · exact .inl h2
                      · exact .inr (.inl h2)
                      · exact .inr (.inr fun y hy2 hf2 => up (h2 y hy2 hf2))) (fun y hy2 hb2 m' hm' => by
                        rw [eb] at hb2
                        by_cases e : y = b
                        · subst e
                          obtain rfl : m' = m := by omega
                          exact hml
                        · rw [if_neg e] at hb2; exact hc2 y hy2 hb2 m' hm') hh hy1 (by omega)
                    refine ⟨ls', bs', ?_, hR⟩
                    refine Ev.succ ?_
                    simp only [impl_reached.l2]
                    rw [w64n hb' (by omega), toNat_nat]
                    refine Ev.pos (by omega) (Ev.pos (by omega) (Ev.pos (by rw [hw h hhn]; omega) (Ev.pos hf (Ev.pos (by rw [hS.lb]; omega) (Ev.neg hm (Ev.bind0 rfl (Ev.pos (by rw [hk.len]; omega) (Ev.pos hp (Ev.pos hp (Ev.pos (by rw [hS.ll]; omega) (Ev.pos ?_ hE)))))))))))
                    rw [hmo]; exact hml
                  · have hrl : RL (fitF fits) nb n o m := .next (hS.sl h hhn hh) hb' hf hmo
                    have hS2 := hS1.setl hmn hrl
                    have el : ∀ l : Nat, rdOf false (ls.set m true) (l : Int) = if l = m then true else rdOf false ls (l : Int) := fun l => rdOf_setn _ _ _ _ (by rw [hS.ll]; exact hmn)
                    have upl : ∀ {l : Nat}, rdOf false ls (l : Int) = true → rdOf false (ls.set m true) (l : Int) = true := fun {l} h3 => by rw [el]; split <;> simp_all
                    obtain ⟨ls', bs', hE, hR⟩ := ihd (b + 1) (ls.set m true) (bs.set b true) (q1 ++ [(m : Int)]) (by omega) hS2 (by simp; omega) (fun z hz => by
                      rcases List.mem_append.mp hz with hz | hz
                      · obtain ⟨l, e, h3, h4⟩ := hq z hz
                        exact ⟨l, e, h3, upl h4⟩
                      · exact ⟨m, by simpa using hz, hmn, by rw [el, if_pos rfl]⟩) (fun l hl h1 => by
                        rw [el] at h1
                        by_cases e : l = m
                        · subst e; exact .inr (.inl (by simp))
                        · rw [if_neg e] at h1
                          rcases hc1 l hl h1 with h2 | h2 | h2
                          · exact .inl h2
                          · exact .inr (.inl (List.mem_append.mpr (.inl h2)))
                          · exact .inr (.inr fun y hy2 hf2 => up (h2 y hy2 hf2))) (fun y hy2 hb2 m' hm' => by
                        rw [eb] at hb2
                        by_cases e : y = b
                        · subst e
                          obtain rfl : m' = m := by omega
                          rw [el, if_pos rfl]
                        · rw [if_neg e] at hb2; exact upl (hc2 y hy2 hb2 m' hm')) (upl hh) hy1 (by simp; omega)
                    refine ⟨ls', bs', ?_, hR⟩
                    refine Ev.succ ?_
                    simp only [impl_reached.l2]
                    rw [w64n hb' (by omega), toNat_nat]
                    refine Ev.pos (by omega) (Ev.pos (by omega) (Ev.pos (by rw [hw h hhn]; omega) (Ev.pos hf (Ev.pos (by rw [hS.lb]; omega) (Ev.neg hm (Ev.bind0 rfl (Ev.pos (by rw [hk.len]; omega) (Ev.pos hp (Ev.pos hp (Ev.pos (by rw [hS.ll]; omega) (Ev.neg (by rw [hmo]; exact hml) (Ev.pos (by simp; omega) ?_))))))))))))
                    rw [hmo, toNat_nat]; exact hE
                · obtain ⟨ls', bs', hE, hR⟩ := ihd (b + 1) ls (bs.set b true) q1 (by omega) hS1 (by omega) hq (fun l hl h1 => by
                    rcases hc1 l hl h1 with h2 | h2 | h2
                    · exact .inl h2
                    · exact .inr (.inl h2)
                    · exact .inr (.inr fun y hy2 hf2 => up (h2 y hy2 hf2))) (fun y hy2 hb2 m' hm' => by
                      rw [eb] at hb2
                      by_cases e : y = b
                      · subst e; omega
                      · rw [if_neg e] at hb2; exact hc2 y hy2 hb2 m' hm') hh hy1 (by omega)
                  refine ⟨ls', bs', ?_, hR⟩
                  refine Ev.succ ?_
                  simp only [impl_reached.l2]
                  rw [w64n hb' (by omega), toNat_nat]
                  exact Ev.pos (by omega) (Ev.pos (by omega) (Ev.pos (by rw [hw h hhn]; omega) (Ev.pos hf (Ev.pos (by rw [hS.lb]; omega) (Ev.neg hm (Ev.bind0 rfl (Ev.pos (by rw [hk.len]; omega) (Ev.neg hp hE))))))))
            · obtain ⟨ls', bs', hE, hR⟩ := ihd (b + 1) ls bs q1 (by omega) hS hu hq hc1 hc2 hh (fun y hy2 hf2 => by
                rcases Nat.lt_or_ge y b with h3 | h3
                · exact hy y h3 hf2
                · obtain rfl : y = b := by omega
                  exact absurd hf2 hf) hsm
              refine ⟨ls', bs', ?_, hR⟩
              refine Ev.succ ?_
              simp only [impl_reached.l2]
              rw [w64n hb' (by omega)]
              exact Ev.pos (by omega) (Ev.pos (by omega) (Ev.pos (by rw [hw h hhn]; omega) (Ev.neg hf hE)))
        obtain ⟨ls', bs', hE, hR⟩ := inner nb 0 ls bs q0 (by omega) hS (by simp at hu; omega) (fun z hz => hq z (by simp [hz])) (fun l hl h1 => by
          rcases hc1 l hl h1 with h2 | h2
          · rcases List.mem_cons.mp h2 with h3 | h3
            · exact .inl (by omega)
            · exact .inr (.inl h3)
          · exact .inr (.inr h2)) hc2 hhl (fun y hy => by omega) (by simp at hsm; omega)
        refine ⟨ls', bs', ?_, hR⟩
        refine Ev.succ ?_
        simp only [impl_reached.l1]
        have e0 : rd ((h : Int) :: q0) 0 = (h : Int) := by simp [rd]
        rw [e0, hn, fits_rd, hw h hhn]
        exact Ev.pos (by simp only [List.length_cons]; omega) (Ev.pos (by simp only [List.length_cons]; omega) (Ev.pos (by omega) (Ev.pos (by omega) hE)))
  -- those without a bin
  have first : ∀ (d i : Nat) (ls : List Bool) (q : List Int), i + d = n → ls.length = n → q.length ≤ i →
      (∀ l : Nat, l < n → (rdOf false ls (l : Int) = true ↔ l < i ∧ ∀ x : Nat, x < nb → rd o (x : Int) ≠ (l : Int))) → (∀ l : Nat, (l : Int) ∈ q ↔ l < n ∧ rdOf false ls (l : Int) = true) → (∀ z ∈ q, ∃ l : Nat, z = (l : Int)) →
      ∃ ls' bs', Ev (fun k => impl_reached.l0 k fits o ls (List.replicate nb false) q (matchAt o n nb) (n : Int) (i : Int)) (ls', bs') ∧ IsReach (fitF fits) nb n o ls' bs' := by
    intro d
    induction d with
    | zero =>
      intro i ls q hi hl hq hls hmem hz
      have hz0 : ∀ y : Nat, rdOf false (List.replicate nb false) (y : Int) = false := fun y => rdOf_rep nb y
      obtain ⟨ls', bs', hE, hR⟩ := main _ ls (List.replicate nb false) q ⟨hl, by simp, fun l hl2 h => .start hl2 ((hls l hl2).mp h).2, fun y _ h => (by rw [hz0] at h; cases h), fun l hl2 h => (hls l hl2).mpr ⟨by omega, h⟩⟩ rfl (by omega)
        (fun z hz2 => by
          obtain ⟨l, rfl⟩ := hz z hz2
          exact ⟨l, rfl, (hmem l).mp hz2⟩) (fun l hl2 h => .inl ((hmem l).mpr ⟨hl2, h⟩)) (fun y _ h => by rw [hz0] at h; cases h) (by have := cnt_le (fun i => !rdOf false (List.replicate nb false) (i : Int)) nb; omega)
      refine ⟨ls', bs', ?_, hR⟩
      refine Ev.succ ?_
      simp only [impl_reached.l0]
      exact Ev.neg (by omega) hE
    | succ d ih =>
      intro i ls q hi hl hq hls hmem hz
      have hi' : i < n := by omega
      have hneg := matchAt_neg hk hi'
      by_cases hu : rd (matchAt o n nb) (i : Int) < 0
      · have el : ∀ l : Nat, rdOf false (ls.set i true) (l : Int) = if l = i then true else rdOf false ls (l : Int) := fun l => rdOf_setn _ _ _ _ (by omega)
        obtain ⟨ls', bs', hE, hR⟩ := ih (i + 1) (ls.set i true) (q ++ [(i : Int)]) (by omega) (by simp; exact hl) (by simp; omega) (fun l hl2 => by
          rw [el]
          by_cases e : l = i
          · subst e; rw [if_pos rfl]; exact ⟨fun _ => ⟨by omega, hneg.mp hu⟩, fun _ => rfl⟩
          · rw [if_neg e, hls l hl2]
            constructor
            · rintro ⟨a, b⟩; exact ⟨by omega, b⟩
            · rintro ⟨a, b⟩; exact ⟨by omega, b⟩) (fun l => by
          rw [List.mem_append, hmem l, el]
          by_cases e : l = i
          · subst e; rw [if_pos rfl]; simp; exact hi'
          · rw [if_neg e]
            constructor
            · rintro (h | h)
              · exact h
              · rw [List.mem_singleton] at h; omega
            · exact .inl) (fun z hz2 => by
          rcases List.mem_append.mp hz2 with h | h
          · exact hz z h
          · exact ⟨i, by simpa using h⟩)
        refine ⟨ls', bs', ?_, hR⟩
        refine Ev.succ ?_
        simp only [impl_reached.l0]
        rw [w64n hi' (by omega), toNat_nat]
        exact Ev.pos (by omega) (Ev.pos (by omega) (Ev.pos (by rw [matchAt_len]; omega) (Ev.pos hu (Ev.pos (by omega) (Ev.pos (by omega) hE)))))
      · obtain ⟨ls', bs', hE, hR⟩ := ih (i + 1) ls q (by omega) hl (by omega) (fun l hl2 => by
          rw [hls l hl2]
          constructor
          · rintro ⟨a, b⟩; exact ⟨by omega, b⟩
          · rintro ⟨a, b⟩
            refine ⟨?_, b⟩
            rcases Nat.lt_or_ge l i with h | h
            · exact h
            · obtain rfl : l = i := by omega
              exact absurd (hneg.mpr b) hu) hmem hz
        refine ⟨ls', bs', ?_, hR⟩
        refine Ev.succ ?_
        simp only [impl_reached.l0]
        rw [w64n hi' (by omega)]
        exact Ev.pos (by omega) (Ev.pos (by omega) (Ev.pos (by rw [matchAt_len]; omega) (Ev.neg hu hE)))
  obtain ⟨ls', bs', hE, hR⟩ := first n 0 (List.replicate n false) [] (by omega) (by simp) (by simp) (fun l hl => by rw [rdOf_rep]; simp) (fun l => by rw [rdOf_rep]; simp) (fun z hz => by cases hz)
  refine ⟨ls', bs', ?_, hR⟩
  subst hnb hn
  unfold impl_reached.f
  rw [toNat_nat]
  refine Ev.bind (impl_matched_ev fits hg hK) (Ev.pos (by omega) (Ev.pos (by omega) (Ev.pos (by omega) (Ev.pos (by rw [toNat_nat, hk.len]; omega) (Ev.bind (impl_matching_ev o _ _ h8 hb8 hk.len hk.rng) ?_)))))
  rw [toNat_nat, hk.len, matchAt_len]
  exact hE

theorem spec_l8Come_ev (fits : List (List Bool)) (hg : fitOk fits = true) {o : List Int} (hK : Ks (fitF fits) (nbOf fits) fits.length 0 (List.replicate (nbOf fits) (-1)) o) (hk : Kuhn (fitF fits) (nbOf fits) fits.length o) :
    ∃ ls bs, Ev (fun k => spec_l8Come.f k fits) (ls, bs) ∧ IsReach (fitF fits) (nbOf fits) fits.length o ls bs := by
  obtain ⟨h8, hb8, hw⟩ := (fitOk_iff fits).mp hg
  generalize hnb : nbOf fits = nb at *
  generalize hn : fits.length = n at *
  have main : ∀ (u : Nat) (ls bs : List Bool), Sound (fitF fits) nb n o ls bs → cnt (fun i => !rdOf false ls (i : Int)) n + cnt (fun i => !rdOf false bs (i : Int)) nb = u →
      ∃ ls' bs', Ev (fun k => spec_l8Come.l1 k fits (matchAt o n nb) ls bs true) (ls', bs') ∧ IsReach (fitF fits) nb n o ls' bs' := by
    intro u
    induction u using Nat.strongRecOn with
    | _ u ih =>
      have pass : ∀ (d i : Nat) (ls bs : List Bool) (fl : Bool), i + d = n → Sound (fitF fits) nb n o ls bs → cnt (fun i => !rdOf false ls (i : Int)) n + cnt (fun i => !rdOf false bs (i : Int)) nb ≤ u →
          (fl = true → cnt (fun i => !rdOf false ls (i : Int)) n + cnt (fun i => !rdOf false bs (i : Int)) nb < u) →
          (fl = false → ∀ a b : Nat, a < i → b < nb → (rdOf false ls (a : Int) = true → fitF fits a b = true → rdOf false bs (b : Int) = true) ∧ (rdOf false bs (b : Int) = true → rd o (b : Int) = (a : Int) → rdOf false ls (a : Int) = true)) →
          ∃ ls' bs', Ev (fun k => spec_l8Come.l2 k fits (matchAt o n nb) ls bs fl (n : Int) (i : Int)) (ls', bs') ∧ IsReach (fitF fits) nb n o ls' bs' := by
        intro d
        induction d with
        | zero =>
          intro i ls bs fl hi hS hu ht hf
          cases fl with
          | true =>
            obtain ⟨ls', bs', hE, hR⟩ := ih _ (ht rfl) ls bs hS rfl
            refine ⟨ls', bs', ?_, hR⟩
            refine Ev.succ ?_; simp only [spec_l8Come.l2]; exact Ev.neg (by omega) hE
          | false =>
            refine ⟨ls, bs, ?_, hS.closed hk.rng (fun l hl h y hy h2 => (hf rfl l y (by omega) hy).1 h h2) (fun y hy h m hm => ?_)⟩
            · refine Ev.succ ?_; simp only [spec_l8Come.l2]; refine Ev.neg (by omega) (Ev.succ ?_); simp only [spec_l8Come.l1]; exact Ev.neg (by simp) (Ev.now _)
            · have := hk.rng y hy
              exact (hf rfl m y (by omega) hy).2 h hm
        | succ d ihd =>
          intro i ls bs fl hi hS hu ht hf
          have hi' : i < n := by omega
          have inner : ∀ (e b : Nat) (ls bs : List Bool) (fl : Bool), b + e = nb → Sound (fitF fits) nb n o ls bs → cnt (fun i => !rdOf false ls (i : Int)) n + cnt (fun i => !rdOf false bs (i : Int)) nb ≤ u →
              (fl = true → cnt (fun i => !rdOf false ls (i : Int)) n + cnt (fun i => !rdOf false bs (i : Int)) nb < u) →
              (fl = false → ∀ a c : Nat, c < nb → (a < i ∨ a = i ∧ c < b) → (rdOf false ls (a : Int) = true → fitF fits a c = true → rdOf false bs (c : Int) = true) ∧ (rdOf false bs (c : Int) = true → rd o (c : Int) = (a : Int) → rdOf false ls (a : Int) = true)) →
              ∃ ls' bs', Ev (fun k => spec_l8Come.l3 k fits (matchAt o n nb) ls bs fl (i : Int) (n : Int) (i : Int) (nb : Int) (b : Int)) (ls', bs') ∧ IsReach (fitF fits) nb n o ls' bs' := by
            intro e
            induction e with
            | zero =>
              intro b ls bs fl hb hS hu ht hf
              obtain ⟨ls', bs', hE, hR⟩ := ihd (i + 1) ls bs fl (by omega) hS hu ht (fun h a c ha hc => hf h a c hc (by omega))
              refine ⟨ls', bs', ?_, hR⟩
              refine Ev.succ ?_
              simp only [spec_l8Come.l3]
              rw [w64n hi' (by omega)]
              exact Ev.neg (by omega) hE
            | succ e ihe =>
              intro b ls bs fl hb hS hu ht hf
              have hb' : b < nb := by omega
              -- what the round asks first
              have go : ∀ {r : List Bool × List Bool}, Ev (fun k => spec_l8Come.j4 k fits (matchAt o n nb) ls bs fl (i : Int) (b : Int) (n : Int) (i : Int) (nb : Int) (b : Int) (rdOf false ls (i : Int) && (fitF fits i b && !rdOf false bs (b : Int)))) r →
                  Ev (fun k => spec_l8Come.l3 k fits (matchAt o n nb) ls bs fl (i : Int) (n : Int) (i : Int) (nb : Int) (b : Int)) r := fun {r} h => by
                refine Ev.succ ?_
                simp only [spec_l8Come.l3]
                rw [fits_rd]
                refine Ev.pos (by omega) (Ev.pos (by omega) (Ev.pos (by rw [hS.ll]; omega) (Ev.ite (fun h1 => Ev.pos (by omega) (Ev.pos (by omega) (Ev.pos (by rw [hw i hi']; omega) (Ev.ite (fun h2 => Ev.pos (by rw [hS.lb]; omega) ?_) (fun h2 => ?_))))) (fun h1 => ?_))))
                · rw [h1, show fitF fits i b = true from h2, Bool.true_and, Bool.true_and] at h; exact h
                · rw [h1, show fitF fits i b = false from by simpa [fitF] using h2, Bool.false_and, Bool.and_false] at h; exact h
                · rw [show rdOf false ls (i : Int) = false from by simpa using h1, Bool.false_and] at h; exact h
              have hmi := matchAt_iff hk hi' hb'
              have eb : ∀ y : Nat, rdOf false (bs.set b true) (y : Int) = if y = b then true else rdOf false bs (y : Int) := fun y => rdOf_setn _ _ _ _ (by rw [hS.lb]; exact hb')
              have el : ∀ l : Nat, rdOf false (ls.set i true) (l : Int) = if l = i then true else rdOf false ls (l : Int) := fun l => rdOf_setn _ _ _ _ (by rw [hS.ll]; exact hi')
              by_cases hA : rdOf false ls (i : Int) = true ∧ fitF fits i b = true ∧ rdOf false bs (b : Int) = false
              · obtain ⟨a1, a2, a3⟩ := hA
                have hcs := cnt_set bs hb' hS.lb a3
                obtain ⟨ls', bs', hE, hR⟩ := ihe (b + 1) ls (bs.set b true) true (by omega) (hS.setb hb' ⟨hb', i, hS.sl i hi' a1, a2⟩) (by omega) (fun _ => by omega) (fun h => by cases h)
                refine ⟨ls', bs', go ?_, hR⟩
                rw [a1, a2, a3]
                refine Ev.succ ?_
                simp only [spec_l8Come.j4]
                rw [w64n hb' (by omega), toNat_nat]
                refine Ev.pos rfl (Ev.pos (by omega) (Ev.pos (by rw [hS.lb]; omega) (Ev.bind0 rfl (Ev.pos (by rw [eb, if_pos rfl]) (Ev.pos (by omega) (Ev.pos (by rw [matchAt_len]; omega) (Ev.ite (fun _ => Ev.pos (by rw [hS.ll]; omega) (Ev.pos a1 hE)) (fun _ => hE))))))))
              · have hx : (rdOf false ls (i : Int) && (fitF fits i b && !rdOf false bs (b : Int))) = false := by
                  cases h1 : rdOf false ls (i : Int) <;> cases h2 : fitF fits i b <;> cases h3 : rdOf false bs (b : Int) <;> simp_all
                rw [hx] at go
                by_cases hB : rdOf false bs (b : Int) = true ∧ rd o (b : Int) = (i : Int) ∧ rdOf false ls (i : Int) = false
                · obtain ⟨b1, b2, b3⟩ := hB
                  have hcs := cnt_set ls hi' hS.ll b3
                  obtain ⟨_, l, hl, hf2⟩ := hS.sb b hb' b1
                  obtain ⟨ls', bs', hE, hR⟩ := ihe (b + 1) (ls.set i true) bs true (by omega) (hS.setl hi' (.next hl hb' hf2 b2)) (by omega) (fun _ => by omega) (fun h => by cases h)
                  refine ⟨ls', bs', go ?_, hR⟩
                  refine Ev.succ ?_
                  simp only [spec_l8Come.j4]
                  rw [w64n hb' (by omega), toNat_nat]
                  exact Ev.neg (by simp) (Ev.pos (by omega) (Ev.pos (by rw [hS.lb]; omega) (Ev.pos b1 (Ev.pos (by omega) (Ev.pos (by rw [matchAt_len]; omega) (Ev.pos (hmi.mpr b2) (Ev.pos (by rw [hS.ll]; omega) (Ev.neg (by rw [b3]; simp) hE))))))))
                · obtain ⟨ls', bs', hE, hR⟩ := ihe (b + 1) ls bs fl (by omega) hS hu ht (fun h a c hc hac => by
                    by_cases e2 : a = i ∧ c = b
                    · obtain ⟨rfl, rfl⟩ := e2
                      refine ⟨fun h1 h2 => ?_, fun h1 h2 => ?_⟩
                      · cases h3 : rdOf false bs (c : Int) with
                        | true => rfl
                        | false => exact absurd ⟨h1, h2, h3⟩ hA
                      · cases h3 : rdOf false ls (a : Int) with
                        | true => rfl
                        | false => exact absurd ⟨h1, h2, h3⟩ hB
                    · exact hf h a c hc (by omega))
                  refine ⟨ls', bs', go ?_, hR⟩
                  refine Ev.succ ?_
                  simp only [spec_l8Come.j4]
                  rw [w64n hb' (by omega)]
                  refine Ev.neg (by simp) (Ev.pos (by omega) (Ev.pos (by rw [hS.lb]; omega) (Ev.ite (fun h1 => Ev.pos (by omega) (Ev.pos (by rw [matchAt_len]; omega) (Ev.ite (fun h2 => Ev.pos (by rw [hS.ll]; omega) (Ev.pos ?_ hE)) (fun _ => hE)))) (fun _ => hE))))
                  cases h3 : rdOf false ls (i : Int) with
                  | true => rfl
                  | false => exact absurd ⟨h1, hmi.mp h2, h3⟩ hB
          obtain ⟨ls', bs', hE, hR⟩ := inner nb 0 ls bs fl (by omega) hS hu ht (fun h a c hc hac => hf h a c (by omega) hc)
          refine ⟨ls', bs', ?_, hR⟩
          refine Ev.succ ?_
          simp only [spec_l8Come.l2]
          rw [hS.lb]
          exact Ev.pos (by omega) hE
      intro ls bs hS hu
      obtain ⟨ls', bs', hE, hR⟩ := pass n 0 ls bs false (by omega) hS (by omega) (fun h => by cases h) (fun _ a b ha => by omega)
      refine ⟨ls', bs', ?_, hR⟩
      refine Ev.succ ?_
      simp only [spec_l8Come.l1]
      rw [hn]
      exact Ev.pos trivial hE
  have first : ∀ (d i : Nat) (ls : List Bool), i + d = n → ls.length = n → (∀ l : Nat, l < n → (rdOf false ls (l : Int) = true ↔ l < i ∧ ∀ x : Nat, x < nb → rd o (x : Int) ≠ (l : Int))) →
      ∃ ls' bs', Ev (fun k => spec_l8Come.l0 k fits (matchAt o n nb) ls (List.replicate nb false) (matchAt o n nb) (n : Int) (i : Int)) (ls', bs') ∧ IsReach (fitF fits) nb n o ls' bs' := by
    intro d
    induction d with
    | zero =>
      intro i ls hi hl hls
      have hz0 : ∀ y : Nat, rdOf false (List.replicate nb false) (y : Int) = false := fun y => rdOf_rep nb y
      obtain ⟨ls', bs', hE, hR⟩ := main _ ls (List.replicate nb false) ⟨hl, by simp, fun l hl2 h => .start hl2 ((hls l hl2).mp h).2, fun y _ h => (by rw [hz0] at h; cases h), fun l hl2 h => (hls l hl2).mpr ⟨by omega, h⟩⟩ rfl
      refine ⟨ls', bs', ?_, hR⟩
      refine Ev.succ ?_
      simp only [spec_l8Come.l0]
      exact Ev.neg (by omega) hE
    | succ d ih =>
      intro i ls hi hl hls
      have hi' : i < n := by omega
      have hneg := matchAt_neg hk hi'
      have el : ∀ l : Nat, rdOf false (ls.set i (decide (rd (matchAt o n nb) (i : Int) < 0))) (l : Int) = if l = i then decide (rd (matchAt o n nb) (i : Int) < 0) else rdOf false ls (l : Int) := fun l => rdOf_setn _ _ _ _ (by omega)
      obtain ⟨ls', bs', hE, hR⟩ := ih (i + 1) (ls.set i (decide (rd (matchAt o n nb) (i : Int) < 0))) (by omega) (by simp; exact hl) (fun l hl2 => by
        rw [el]
        by_cases e : l = i
        · subst e; rw [if_pos rfl, decide_eq_true_eq, hneg]; exact ⟨fun h => ⟨by omega, h⟩, fun h => h.2⟩
        · rw [if_neg e, hls l hl2]
          constructor
          · rintro ⟨a, b⟩; exact ⟨by omega, b⟩
          · rintro ⟨a, b⟩; exact ⟨by omega, b⟩)
      refine ⟨ls', bs', ?_, hR⟩
      refine Ev.succ ?_
      simp only [spec_l8Come.l0]
      rw [w64n hi' (by omega), toNat_nat]
      exact Ev.pos (by omega) (Ev.pos (by omega) (Ev.pos (by rw [matchAt_len]; omega) (Ev.pos (by omega) hE)))
  obtain ⟨ls', bs', hE, hR⟩ := first n 0 (List.replicate n false) (by omega) (by simp) (fun l hl => by rw [rdOf_rep]; simp)
  refine ⟨ls', bs', ?_, hR⟩
  subst hnb hn
  unfold spec_l8Come.f
  rw [toNat_nat]
  refine Ev.bind (spec_l8Match_ev fits hg hK) (Ev.pos (by omega) (Ev.pos (by omega) (Ev.bind0 (spec_l8Bins_eq fits) (Ev.pos (by omega) (Ev.pos (by rw [toNat_nat]; omega) ?_)))))
  rw [toNat_nat, matchAt_len]
  exact hE

def numsOf (l : List Bool) (so : Bool) : Nat → List Int
  | 0 => []
  | i + 1 => if rdOf false l (i : Int) = so then numsOf l so i ++ [(i : Int)] else numsOf l so i
theorem numsOf_len (l : List Bool) (so : Bool) (n : Nat) : (numsOf l so n).length = cnt (fun i => rdOf false l (i : Int) == so) n := by
  induction n with
  | zero => rfl
  | succ n ih =>
    simp only [numsOf, cnt]
    by_cases h : rdOf false l (n : Int) = so
    · rw [if_pos h, List.length_append, ih, h]; simp
    · rw [if_neg h, ih]; simp [h]
theorem numsOf_mem (l : List Bool) (so : Bool) (n : Nat) (z : Int) : z ∈ numsOf l so n ↔ ∃ i : Nat, z = (i : Int) ∧ i < n ∧ rdOf false l (i : Int) = so := by
  induction n with
  | zero => simp [numsOf]
  | succ n ih =>
    simp only [numsOf]
    by_cases h : rdOf false l (n : Int) = so
    · rw [if_pos h, List.mem_append, ih, List.mem_singleton]
      constructor
      · rintro (⟨i, e, h1, h2⟩ | e)
        · exact ⟨i, e, by omega, h2⟩
        · exact ⟨n, e, by omega, h⟩
      · rintro ⟨i, e, h1, h2⟩
        rcases Nat.lt_or_ge i n with h3 | h3
        · exact .inl ⟨i, e, h3, h2⟩
        · exact .inr (by omega)
    · rw [if_neg h, ih]
      constructor
      · rintro ⟨i, e, h1, h2⟩; exact ⟨i, e, by omega, h2⟩
      · rintro ⟨i, e, h1, h2⟩
        rcases Nat.lt_or_ge i n with h3 | h3
        · exact ⟨i, e, h3, h2⟩
        · obtain rfl : i = n := by omega
          exact absurd h2 h
theorem numsOf_le (l : List Bool) (so : Bool) (n : Nat) : (numsOf l so n).length ≤ n := by rw [numsOf_len]; exact cnt_le _ _

theorem impl_numbered_ev (l : List Bool) (so : Bool) (h : l.length ≤ 1048576) : Ev (fun k => impl_numbered.f k l so) (numsOf l so l.length) := by
  unfold impl_numbered.f
  refine ev_up l.length (fun k i => impl_numbered.l0 k so (numsOf l so i) l (l.length : Int) (i : Int)) _ (fun _ => True) trivial ?_ ?_
  · intro _; refine Ev.succ ?_; simp only [impl_numbered.l0]; exact Ev.neg (by omega) (Ev.now _)
  · intro i hi _ hn
    have hn := hn trivial
    have := numsOf_le l so i
    refine Ev.succ ?_
    simp only [impl_numbered.l0]
    rw [w64n hi (by omega)]
    simp only [numsOf] at hn
    refine Ev.pos (by omega) (Ev.pos (by omega) (Ev.pos (by omega) (Ev.ite (fun h1 => Ev.pos (by omega) ?_) (fun h1 => ?_))))
    · rw [if_pos (by simpa using h1)] at hn; exact hn
    · rw [if_neg (by simpa using h1)] at hn; exact hn

theorem spec_l8Those_ev (l : List Bool) (so : Bool) (h : l.length ≤ 1048576) : Ev (fun k => spec_l8Those.f k l so) (numsOf l so l.length) := by
  unfold spec_l8Those.f
  refine ev_up l.length (fun k i => spec_l8Those.l0 k so (numsOf l so i) l (l.length : Int) (i : Int)) _ (fun _ => True) trivial ?_ ?_
  · intro _; refine Ev.succ ?_; simp only [spec_l8Those.l0]; exact Ev.neg (by omega) (Ev.now _)
  · intro i hi _ hn
    have hn := hn trivial
    have := numsOf_le l so i
    refine Ev.succ ?_
    simp only [spec_l8Those.l0]
    rw [w64n hi (by omega)]
    simp only [numsOf] at hn
    refine Ev.pos (by omega) (Ev.pos (by omega) (Ev.pos (by omega) (Ev.ite (fun h1 => Ev.pos (by omega) ?_) (fun h1 => ?_))))
    · rw [if_pos (by simpa using h1)] at hn; exact hn
    · rw [if_neg (by simpa using h1)] at hn; exact hn

theorem reach_both (fits : List (List Bool)) (hg : fitOk fits = true) {o : List Int} (hK : Ks (fitF fits) (nbOf fits) fits.length 0 (List.replicate (nbOf fits) (-1)) o) (hk : Kuhn (fitF fits) (nbOf fits) fits.length o) :
    ∃ ls bs, Ev (fun k => impl_reached.f k fits) (ls, bs) ∧ Ev (fun k => spec_l8Come.f k fits) (ls, bs) ∧ IsReach (fitF fits) (nbOf fits) fits.length o ls bs := by
  obtain ⟨ls, bs, h1, h2⟩ := impl_reached_ev fits hg hK hk
  obtain ⟨ls', bs', h3, h4⟩ := spec_l8Come_ev fits hg hK hk
  obtain ⟨rfl, rfl⟩ := h2.uniq h4
  exact ⟨ls, bs, h1, h3, h2⟩

theorem CoverOf_ev (fits : List (List Bool)) (h : fits.length ≤ 1048576) : ∃ a b ok, Ev (fun k => impl_CoverOf.f k fits) (a, b, ok) ∧ Ev (fun k => spec_CoverOf.f k fits) (a, b, ok) ∧ a.length ≤ 8 ∧ b.length ≤ 8 ∧ ok = fitOk fits ∧
    (fitOk fits = true → ∀ o, Ks (fitF fits) (nbOf fits) fits.length 0 (List.replicate (nbOf fits) (-1)) o → Kuhn (fitF fits) (nbOf fits) fits.length o → ∃ ls bs, IsReach (fitF fits) (nbOf fits) fits.length o ls bs ∧ a = numsOf ls false fits.length ∧ b = numsOf bs true (nbOf fits)) := by
  unfold impl_CoverOf.f spec_CoverOf.f
  have g1 := impl_GoodFits_ev fits h
  have g2 := spec_GoodFits_ev fits h
  by_cases hg : fitOk fits = true
  · obtain ⟨h8, hb8, hw⟩ := (fitOk_iff fits).mp hg
    obtain ⟨o, hK, hk⟩ := kuhn (fitF fits) (nbOf fits) fits.length
    obtain ⟨ls, bs, h1, h2, h3⟩ := reach_both fits hg hK hk
    have l1 := numsOf_le ls false ls.length
    have l2 := numsOf_le bs true bs.length
    have e1 := h3.ll
    have e2 := h3.lb
    refine ⟨numsOf ls false ls.length, numsOf bs true bs.length, true, Ev.bind g1 (Ev.pos hg (Ev.bind h1 (Ev.bind (impl_numbered_ev _ _ (by dsimp only; omega)) (Ev.bind (impl_numbered_ev _ _ (by dsimp only; omega)) (Ev.now _))))), Ev.bind g2 (Ev.pos hg (Ev.bind h2 (Ev.bind (spec_l8Those_ev _ _ (by dsimp only; omega)) (Ev.bind (spec_l8Those_ev _ _ (by dsimp only; omega)) (Ev.now _))))), by omega, by omega, hg.symm, fun _ o' hK' hk' => ?_⟩
    obtain ⟨ls', bs', h1', _, h3'⟩ := reach_both fits hg hK' hk'
    have := Ev.uniq h1 h1'
    simp only [Prod.mk.injEq] at this
    obtain ⟨rfl, rfl⟩ := this
    exact ⟨ls, bs, h3', by rw [e1], by rw [e2]⟩
  · refine ⟨[], [], false, Ev.bind g1 (Ev.neg hg (Ev.now _)), Ev.bind g2 (Ev.neg hg (Ev.now _)), by simp, by simp, (Bool.eq_false_iff.mpr hg).symm, fun h => absurd h hg⟩

def flowOk (flow : List Int) : Bool := decide (1 ≤ (flow.length : Int)) && decide ((flow.length : Int) ≤ 8) && allIn flow 1 30
def countsOk (flow counts : List Int) : Bool := flowOk flow && (decide ((counts.length : Int) = (flow.length : Int)) && (allIn counts 1 40 && decide (counts.sum ≤ 40)))
def gn (f c : Int) : Int := lowNum f (c * (c + 1))
def gd (f c : Int) : Int := lowDen f (c * (c + 1))
def bestUp (lt : Nat → Nat → Bool) : Nat → Nat
  | 0 => 0
  | i + 1 => if lt (bestUp lt i) i = true then i else bestUp lt i
def gainLt (flow counts : List Int) (b i : Nat) : Bool := decide (gn flow[b]! counts[b]! * gd flow[i]! counts[i]! < gn flow[i]! counts[i]! * gd flow[b]! counts[b]!)
def nextOf (flow counts : List Int) : Nat := bestUp (gainLt flow counts) flow.length

def fits (p : Int × Int) : Int × Int × Bool := if goodFrac p.1 p.2 = true then (p.1, p.2, true) else (0, 0, false)
def bothGood (a b c d : Int) : Bool := goodFrac a b && goodFrac c d
def addF (a b c d : Int) : Int × Int × Bool := if bothGood a b c d = true then fits (lowNum (a * d + c * b) (b * d), lowDen (a * d + c * b) (b * d)) else (0, 0, false)
def subF (a b c d : Int) : Int × Int × Bool := if bothGood a b c d = true then fits (lowNum (a * d - c * b) (b * d), lowDen (a * d - c * b) (b * d)) else (0, 0, false)
def mulF (a b c d : Int) : Int × Int × Bool := if bothGood a b c d = true then fits (lowNum (a * c) (b * d), lowDen (a * c) (b * d)) else (0, 0, false)
def divF (a b c d : Int) : Int × Int × Bool := if bothGood a b c d = true ∧ c ≠ 0 then fits (lowNum (a * d) (b * c), lowDen (a * d) (b * c)) else (0, 0, false)
def lessF (a b c d : Int) : Bool × Bool := if bothGood a b c d = true then (decide (a * d < c * b), true) else (false, false)
def floorF (a b : Int) : Int × Bool := if goodFrac a b = true then (a / b, true) else (0, false)

def sumF : List (Int × Int) → Int × Int → Int × Int × Bool
  | [], s => (s.1, s.2, true)
  | x :: l, s => if (addF s.1 s.2 x.1 x.2).2.2 = true then sumF l ((addF s.1 s.2 x.1 x.2).1, (addF s.1 s.2 x.1 x.2).2.1) else (0, 0, false)

def sumsF (l : List (Int × Int)) : Int × Int × Bool := if l.length ≤ 50 then sumF l (0, 1) else (0, 0, false)

def bump (flow counts : List Int) : List Int := counts.set (nextOf flow counts) (counts[nextOf flow counts]! + 1)
def shareUp (flow : List Int) : Nat → List Int
  | 0 => List.replicate flow.length 1
  | i + 1 => bump flow (shareUp flow i)
def shareOf (flow : List Int) (places : Int) : List Int := shareUp flow (places - flow.length).toNat
def kindsOk (flow : List Int) (places : Int) : Bool := flowOk flow && (decide ((flow.length : Int) ≤ places) && decide (places ≤ 40))

def upFrom (k : Int) (n : Nat) : List Int := (List.range n).map fun (j : Nat) => k + (j : Int)

def jn (E : List (Nat × Nat)) (T : Nat → Bool) : Nat → Nat → Prop
  | 0, u => T u = true
  | n + 1, u => T u = true ∨ ∃ v, ((u, v) ∈ E ∨ (v, u) ∈ E) ∧ jn E T n v
def Jn (E : List (Nat × Nat)) (T : Nat → Bool) (u : Nat) : Prop := ∃ n, jn E T n u
theorem Jn.base {E : List (Nat × Nat)} {T : Nat → Bool} {u : Nat} (h : T u = true) : Jn E T u := ⟨0, h⟩
theorem Jn.step {E : List (Nat × Nat)} {T : Nat → Bool} {u v : Nat} (h : (u, v) ∈ E ∨ (v, u) ∈ E) (k : Jn E T v) : Jn E T u := by
  obtain ⟨n, hn⟩ := k; exact ⟨n + 1, .inr ⟨v, h, hn⟩⟩
theorem Jn.rule {E : List (Nat × Nat)} {T : Nat → Bool} {P : Nat → Prop} (hb : ∀ u, T u = true → P u)
    (hs : ∀ u v, ((u, v) ∈ E ∨ (v, u) ∈ E) → Jn E T v → P v → P u) {u : Nat} (h : Jn E T u) : P u := by
  obtain ⟨n, hn⟩ := h
  induction n generalizing u with
  | zero => exact hb u hn
  | succ n ih =>
    rcases hn with h | ⟨v, h, hv⟩
    · exact hb u h
    · exact hs u v h ⟨n, hv⟩ (ih hv)
theorem Jn.trans {E E' : List (Nat × Nat)} {T T' : Nat → Bool} {u : Nat} (h : Jn E T u) (k : ∀ x, T x = true → Jn E' T' x) (hE : ∀ e ∈ E, e ∈ E') : Jn E' T' u :=
  h.rule k fun _ _ he _ p => Jn.step (he.imp (hE _) (hE _)) p
theorem Jn.cross {E : List (Nat × Nat)} {J : Nat → Bool} {v : Nat} (h : Jn E J v) : J v = false →
    ∃ e ∈ E, ∃ x s, (e = (x, s) ∨ e = (s, x)) ∧ J x = false ∧ J s = true ∧ Jn (E.erase e) (fun u => decide (u = v)) x := by
  refine h.rule (P := fun v => J v = false → ∃ e ∈ E, ∃ x s, (e = (x, s) ∨ e = (s, x)) ∧ J x = false ∧ J s = true ∧ Jn (E.erase e) (fun u => decide (u = v)) x) (fun u hu hv => absurd hu (by simp [hv])) ?_
  intro u w hf hw ih hu
  cases hJ : J w with
  | true =>
    have hx : Jn (E.erase ((u, w) : Nat × Nat)) (fun y => decide (y = u)) u := Jn.base (by simp)
    have hx' : Jn (E.erase ((w, u) : Nat × Nat)) (fun y => decide (y = u)) u := Jn.base (by simp)
    rcases hf with hf | hf
    · exact ⟨_, hf, u, w, .inl rfl, hu, hJ, hx⟩
    · exact ⟨_, hf, u, w, .inr rfl, hu, hJ, hx'⟩
  | false =>
    obtain ⟨e, he, x, s, hxs, hx, hs, hj⟩ := ih hJ
    refine ⟨e, he, x, s, hxs, hx, hs, hj.trans (fun y hy => ?_) (fun _ h => h)⟩
    have hyw : y = w := by simpa using hy
    subst hyw
    have hne : ∀ f : Nat × Nat, f = (u, y) ∨ f = (y, u) → f ≠ e := by
      rintro f hf1 rfl
      rcases hf1 with h1 | h1 <;> rcases hxs with h2 | h2 <;> rw [h1] at h2 <;> injection h2 with h3 h4 <;> subst h3 <;> subst h4 <;> simp_all
    refine Jn.step (v := u) ?_ (Jn.base (by simp))
    rcases hf with hf | hf
    · exact .inr ((List.mem_erase_of_ne (hne _ (.inl rfl))).mpr hf)
    · exact .inl ((List.mem_erase_of_ne (hne _ (.inr rfl))).mpr hf)
theorem Jn.move {E : List (Nat × Nat)} {J : Nat → Bool} {v x s : Nat} {e : Nat × Nat} (hxs : e = (x, s) ∨ e = (s, x)) (hs : J s = true)
    (hj : Jn (E.erase e) (fun u => decide (u = v)) x) {u : Nat} (h : Jn E J u) : Jn (E.erase e) (fun y => J y || decide (y = v)) u := by
  have hx : Jn (E.erase e) (fun y => J y || decide (y = v)) x := hj.trans (fun y hy => Jn.base (by simp at hy; simp [hy])) (fun _ h => h)
  have hss : Jn (E.erase e) (fun y => J y || decide (y = v)) s := Jn.base (by simp [hs])
  refine h.rule (P := fun u => Jn (E.erase e) (fun y => J y || decide (y = v)) u) (fun u hu => Jn.base (by simp [hu])) ?_
  intro u w hf _ ih
  by_cases h1 : (u, w) = e
  · rcases hxs with h2 | h2 <;> rw [h2] at h1 <;> injection h1 with h3 h4
    · rw [h3]; exact hx
    · rw [h3]; exact hss
  · by_cases h2 : (w, u) = e
    · rcases hxs with h3 | h3 <;> rw [h3] at h2 <;> injection h2 with h4 h5
      · rw [h5]; exact hss
      · rw [h5]; exact hx
    · refine Jn.step (v := w) ?_ ih
      rcases hf with hf | hf
      · exact .inl ((List.mem_erase_of_ne h1).mpr hf)
      · exact .inr ((List.mem_erase_of_ne h2).mpr hf)
def sumW (w : Nat → Nat → Int) (E : List (Nat × Nat)) : Int := (E.map fun e => w e.1 e.2).sum
def nearUp (w : Nat → Nat → Int) (J : Nat → Bool) (i : Nat) : Nat → Option Nat
  | 0 => none
  | k + 1 => match nearUp w J i k with
    | none => if J k = true then some k else none
    | some m => if J k = true ∧ w i k < w i m then some k else some m
def pickUp (w : Nat → Nat → Int) (J : Nat → Bool) (n : Nat) : Nat → Option (Nat × Nat)
  | 0 => none
  | i + 1 => match pickUp w J n i with
    | none => if J i = true then none else (nearUp w J i n).map fun m => (i, m)
    | some p => if J i = true then some p else match nearUp w J i n with
      | none => some p
      | some m => if w i m < w p.1 p.2 then some (i, m) else some p

def updP (w : Nat → Nat → Int) (J : Nat → Bool) (i : Nat) (p : Option (Nat × Nat)) (m : Option Nat) : Option (Nat × Nat) :=
  if J i = true then p else match m with
    | none => p
    | some m => match p with
      | none => some (i, m)
      | some q => if w i m < w q.1 q.2 then some (i, m) else some q
def jd (J : List Bool) (m : Nat) : Bool := rdOf false J (m : Int)
def primSt (w : Nat → Nat → Int) (n : Nat) : Nat → List Int × Int × List Bool
  | 0 => (List.replicate n (-1), 0, (List.replicate n false).set 0 true)
  | t + 1 => match pickUp w (jd (primSt w n t).2.2) n n with
    | none => primSt w n t
    | some q => ((primSt w n t).1.set q.1 (q.2 : Int), (primSt w n t).2.1 + w q.1 q.2, (primSt w n t).2.2.set q.1 true)
def sumTo (f : Nat → Int) : Nat → Int
  | 0 => 0
  | n + 1 => sumTo f n + f n
structure PrimOk (w : Nat → Nat → Int) (n : Nat) (E : List (Nat × Nat)) (t : Nat) (s : List Int × Int × List Bool) : Prop where
  l1 : s.1.length = n
  l2 : s.2.2.length = n
  cnt : s.2.2.count true = t + 1
  j0 : jd s.2.2 0 = true
  o0 : rd s.1 0 = -1
  up : ∀ i, i < n → i ≠ 0 → jd s.2.2 i = true → 0 ≤ rd s.1 i ∧ rd s.1 i < n ∧ rd s.1 i ≠ i
  all : ∀ i, i < n → -1 ≤ rd s.1 i ∧ rd s.1 i < n
  sum : s.2.1 = sumTo (fun i => if jd s.2.2 i = true ∧ i ≠ 0 then w i (rd s.1 i).toNat else 0) n
  pot : ∃ E', (∀ e ∈ E', e ∈ E) ∧ sumW w E' + s.2.1 ≤ sumW w E ∧ ∀ u, u < n → Jn E' (jd s.2.2) u

def isqUp (n : Int) : Nat → Int
  | 0 => 0
  | k + 1 => if ((k : Int) + 1) * ((k : Int) + 1) ≤ n then (k : Int) + 1 else isqUp n k
def isq (n : Int) : Int := isqUp n n.toNat
def goodB (a b c d : Int) : Bool := bothGood a b c d && (decide (0 ≤ a) && !decide (c * b < a * d))

def withinB (x y a b c d : Int) : Bool × Bool := if goodFrac x y = true ∧ goodB a b c d = true then (!decide (x * b < a * y) && !decide (c * y < x * d), true) else (false, false)

def rootB (n p : Int) : Int × Int × Int × Int × Bool :=
  if (0 ≤ n ∧ n ≤ 1000000000000) ∧ (1 ≤ p ∧ p ≤ 1000) ∧ n ≤ 1000000000000 / (p * p) then
    (lowNum (isq (n * p * p)) p, lowDen (isq (n * p * p)) p, lowNum (if isq (n * p * p) * isq (n * p * p) = n * p * p then isq (n * p * p) else isq (n * p * p) + 1) p, lowDen (if isq (n * p * p) * isq (n * p * p) = n * p * p then isq (n * p * p) else isq (n * p * p) + 1) p, true)
  else (0, 0, 0, 0, false)
def losOf (l : List S44) : List (Int × Int) := l.map fun b => (b.f0.f0, b.f0.f1)
def hisOf (l : List S44) : List (Int × Int) := l.map fun b => (b.f1.f0, b.f1.f1)
def sumB (l : List S44) : Int × Int × Int × Int × Bool :=
  if l.length ≤ 20 ∧ (l.all fun b => goodB b.f0.f0 b.f0.f1 b.f1.f0 b.f1.f1) = true ∧ (sumF (losOf l) (0, 1)).2.2 = true ∧ (sumF (hisOf l) (0, 1)).2.2 = true then
    ((sumF (losOf l) (0, 1)).1, (sumF (losOf l) (0, 1)).2.1, (sumF (hisOf l) (0, 1)).1, (sumF (hisOf l) (0, 1)).2.1, true)
  else (0, 0, 0, 0, false)

def csq (n : Int) : Int := if isq n * isq n = n then isq n else isq n + 1
def rootsL (flow : List Int) (p : Int) : Int := (flow.map fun f => isq (f * p * p)).sum
def rootsH (flow : List Int) (p : Int) : Int := (flow.map fun f => csq (f * p * p)).sum
def leastB (flow : List Int) (room p : Int) : Int × Int × Int × Int × Bool :=
  if flowOk flow = true ∧ (8 ≤ room ∧ room ≤ 1000) ∧ (1 ≤ p ∧ p ≤ 100) then
    (lowNum (rootsL flow p * rootsL flow p) (p * p * room), lowDen (rootsL flow p * rootsL flow p) (p * p * room), lowNum (rootsH flow p * rootsH flow p) (p * p * room), lowDen (rootsH flow p * rootsH flow p) (p * p * room), true)
  else (0, 0, 0, 0, false)
def bndOf (p f : Int) : S44 := ⟨⟨lowNum (isq (f * p * p)) p, lowDen (isq (f * p * p)) p⟩, ⟨lowNum (csq (f * p * p)) p, lowDen (csq (f * p * p)) p⟩⟩

theorem ev_all {β : Type} (n : Nat) (P : Nat → Bool) (g : Nat → Nat → Option β) (yes no : β)
    (hs : ∀ r i, i < n → P i = true → Ev (fun k => g k (i + 1)) r → Ev (fun k => g k i) r) (hno : ∀ i, i < n → P i = false → Ev (fun k => g k i) no)
    (hyes : (∀ i, i < n → P i = true) → Ev (fun k => g k n) yes) (b : Bool) (hb : b = true ↔ ∀ i, i < n → P i = true) : Ev (fun k => g k 0) (if b = true then yes else no) := by
  by_cases h : ∀ i, i < n → P i = true
  · rw [if_pos (hb.mpr h)]
    exact ev_up n g yes (fun _ => True) trivial (fun _ => hyes h) fun i hi _ hn => hs _ i hi (h i hi) (hn trivial)
  · rw [if_neg (fun hx => h (hb.mp hx))]
    have h1 : ∃ i, i < n ∧ P i = false := by
      refine Classical.byContradiction fun hc => h fun i hi => ?_
      cases hp : P i with
      | true => rfl
      | false => exact absurd ⟨i, hi, hp⟩ hc
    obtain ⟨m, hm, hmin⟩ := exists_least h1
    refine ev_up m g no (fun _ => True) trivial (fun _ => hno m hm.1 hm.2) fun i hi _ hn => hs _ i (by omega) ?_ (hn trivial)
    cases hp : P i with
    | true => rfl
    | false => have := hmin i ⟨by omega, hp⟩; omega
def allTo (P : Nat → Bool) (n : Nat) : Bool := (List.range n).all P
theorem allTo_iff (P : Nat → Bool) (n : Nat) : allTo P n = true ↔ ∀ i, i < n → P i = true := by simp [allTo, List.all_eq_true]

def KK : Int := 219060189739591200
def kd (c : Int) : Int := KK / c
def gK (c : Int) : Int := kd c - kd (c + 1)
def Stab (n : Nat) (f c : Nat → Int) : Prop := ∀ i k, i < n → k < n → i ≠ k → 1 < c i → f k * gK (c k) ≤ f i * gK (c i - 1)
def costN (n : Nat) (f c : Nat → Int) : Int := sumTo (fun i => f i * kd (c i)) n
def tK (x : Int × Int) : Int := x.1 * KK / x.2
def isT (x : Int × Int) (t : Int) : Prop := 1 ≤ x.2 ∧ x.1 * KK = x.2 * t
def ratioL (flow counts : List Int) : List (Int × Int) := (List.range flow.length).map fun (j : Nat) => (lowNum (rd flow j) (rd counts j), lowDen (rd flow j) (rd counts j))
def costF (flow counts : List Int) : Int × Int × Bool := if countsOk flow counts = true then sumF (ratioL flow counts) (0, 1) else (0, 0, false)

theorem cnt_and (p q : Nat → Bool) (n : Nat) : cnt p n = cnt (fun i => p i && q i) n + cnt (fun i => p i && !q i) n := by
  induction n with
  | zero => rfl
  | succ n ih => simp only [cnt]; rw [ih]; cases p n <;> cases q n <;> simp <;> omega
theorem cnt_or (p q : Nat → Bool) (n : Nat) : cnt (fun i => p i || q i) n ≤ cnt p n + cnt q n := by
  induction n with
  | zero => simp [cnt]
  | succ n ih => simp only [cnt]; cases p n <;> cases q n <;> simp <;> omega
theorem cnt_false (n : Nat) : cnt (fun _ => false) n = 0 := by
  induction n with
  | zero => rfl
  | succ n ih => simp only [cnt]; rw [ih]; rfl
theorem cnt_is (a : Int) (n : Nat) : cnt (fun i => decide ((i : Int) = a)) n ≤ 1 := by
  induction n with
  | zero => simp [cnt]
  | succ n ih =>
    simp only [cnt]
    by_cases h : (n : Int) = a
    · have : cnt (fun i => decide ((i : Int) = a)) n = cnt (fun _ => false) n := cnt_congr fun i hi => by simp; omega
      rw [this, cnt_false]; simp; cases decide ((n : Int) = a) <;> simp
    · rw [decide_eq_false h]; exact ih
theorem cnt_mem (l : List Int) (n : Nat) : cnt (fun i => decide ((i : Int) ∈ l)) n ≤ l.length := by
  induction l with
  | nil => rw [cnt_congr (q := fun _ => false) (fun i _ => by simp), cnt_false]; simp
  | cons a l ih =>
    have e : cnt (fun i => decide ((i : Int) ∈ a :: l)) n = cnt (fun i => decide ((i : Int) = a) || decide ((i : Int) ∈ l)) n := cnt_congr fun i _ => by simp
    have h1 := cnt_or (fun i => decide ((i : Int) = a)) (fun i => decide ((i : Int) ∈ l)) n
    have h2 := cnt_is a n
    rw [e, List.length_cons]; omega
theorem RB.owned {F : Nat → Nat → Bool} {nb n : Nat} {o : List Int} (hk : Kuhn F nb n o) {y : Nat} (h : RB F nb n o y) : ∃ m : Nat, rd o (y : Int) = (m : Int) := by
  obtain ⟨D, hD, hU⟩ := hk.dead
  have key : ∀ l, RL F nb n o l → ∀ y : Nat, y < nb → F l y = true → D y := by
    intro l hl
    induction hl with
    | start hl hu => exact hU _ hl hu
    | @next l y m hp hy hf hm ih =>
      obtain ⟨_, m', h1, h2⟩ := hD _ (ih _ hy hf)
      obtain rfl : m' = m := by omega
      exact h2
  obtain ⟨hy, l, hl, hf⟩ := h
  obtain ⟨_, m, hm, _⟩ := hD y (key l hl y hy hf)
  exact ⟨m, hm⟩
theorem konig_count {F : Nat → Nat → Bool} {nb n : Nat} {o : List Int} {ls bs : List Bool} (hk : Kuhn F nb n o) (hR : IsReach F nb n o ls bs) :
    cnt (fun l => decide (rd (matchAt o n nb) (l : Int) ≥ 0)) n = cnt (fun l => rdOf false ls (l : Int) == false) n + cnt (fun y => rdOf false bs (y : Int) == true) nb := by
  have hneg : ∀ l : Nat, l < n → (¬ rd (matchAt o n nb) (l : Int) ≥ 0 ↔ ∀ x : Nat, x < nb → rd o (x : Int) ≠ (l : Int)) := fun l hl => by
    rw [← matchAt_neg hk hl]; omega
  have hsome : ∀ l : Nat, l < n → rd (matchAt o n nb) (l : Int) ≥ 0 → ∃ b : Nat, b < nb ∧ rd (matchAt o n nb) (l : Int) = (b : Int) ∧ rd o (b : Int) = (l : Int) := fun l hl h => by
    by_cases hx : ∃ x : Nat, x < nb ∧ rd o (x : Int) = (l : Int)
    · obtain ⟨x, hx, he⟩ := hx
      exact ⟨x, hx, (matchAt_iff hk hl hx).mpr he, he⟩
    · exact absurd h ((hneg l hl).mpr fun x hx2 he => hx ⟨x, hx2, he⟩)
  rw [cnt_and (fun l => decide (rd (matchAt o n nb) (l : Int) ≥ 0)) (fun l => rdOf false ls (l : Int) == false) n]
  congr 1
  · refine cnt_congr fun l hl => ?_
    cases hx : rdOf false ls (l : Int) with
    | true => simp
    | false =>
      have : rd (matchAt o n nb) (l : Int) ≥ 0 := Classical.byContradiction fun h => by
        have := (hR.rl l hl).mpr (.start hl ((hneg l hl).mp h))
        rw [hx] at this; cases this
      simp [this]
  · apply Nat.le_antisymm
    · refine cnt_inj (fun l => (rd (matchAt o n nb) (l : Int)).toNat) _ n (fun l hl hp => ?_) (fun l l' hl hl' hp hp' e => ?_)
      · simp only [Bool.and_eq_true, decide_eq_true_eq, Bool.not_eq_true', beq_eq_false_iff_ne, ne_eq, Bool.not_eq_false] at hp
        obtain ⟨b, hb, h1, h2⟩ := hsome l hl hp.1
        rw [h1, toNat_nat]
        refine ⟨hb, beq_iff_eq.mpr ((hR.rb b hb).mpr ?_)⟩
        have hrl := (hR.rl l hl).mp hp.2
        cases hrl with
        | start _ hu => exact absurd h2 (hu b hb)
        | @next l' y _ hp' hy hf hm =>
          have := hk.inj y b l hy hb hm h2
          subst this
          exact ⟨hb, l', hp', hf⟩
      · simp only [Bool.and_eq_true, decide_eq_true_eq] at hp hp'
        obtain ⟨b, hb, h1, h2⟩ := hsome l hl hp.1
        obtain ⟨b', hb', h1', h2'⟩ := hsome l' hl' hp'.1
        rw [h1, h1', toNat_nat, toNat_nat] at e
        subst e
        omega
    · refine cnt_inj (fun y => (rd o (y : Int)).toNat) _ nb (fun y hy hp => ?_) (fun y y' hy hy' hp hp' e => ?_)
      · have hrb := (hR.rb y hy).mp (by simpa using hp)
        obtain ⟨m, hm⟩ := hrb.owned hk
        have hmn : m < n := by have := hk.rng y hy; omega
        obtain ⟨_, l, hl, hf⟩ := hrb
        have h1 : rdOf false ls (m : Int) = true := (hR.rl m hmn).mpr (.next hl hy hf hm)
        have h2 : rd (matchAt o n nb) (m : Int) = (y : Int) := (matchAt_iff hk hmn hy).mpr hm
        rw [hm, toNat_nat]
        refine ⟨hmn, ?_⟩
        simp only [h1, h2]; simp
      · obtain ⟨m, hm⟩ := ((hR.rb y hy).mp (by simpa using hp)).owned hk
        obtain ⟨m', hm'⟩ := ((hR.rb y' hy').mp (by simpa using hp')).owned hk
        rw [hm, hm', toNat_nat, toNat_nat] at e
        subst e
        exact hk.inj y y' m hy hy' hm hm'
structure IsM (F : Nat → Nat → Bool) (nb n : Nat) (x : List Int) : Prop where
  len : x.length = n
  rng : ∀ l : Nat, l < n → -1 ≤ rd x (l : Int) ∧ rd x (l : Int) < nb
  fit : ∀ (l b : Nat), l < n → rd x (l : Int) = (b : Int) → F l b = true
  inj : ∀ (l l' b : Nat), l < n → l' < n → rd x (l : Int) = (b : Int) → rd x (l' : Int) = (b : Int) → l = l'
theorem IsM.of_kuhn {F : Nat → Nat → Bool} {nb n : Nat} {o : List Int} (hk : Kuhn F nb n o) : IsM F nb n (matchAt o n nb) := by
  have hsome : ∀ l : Nat, l < n → (∃ b : Nat, b < nb ∧ rd (matchAt o n nb) (l : Int) = (b : Int) ∧ rd o (b : Int) = (l : Int)) ∨ rd (matchAt o n nb) (l : Int) = -1 := fun l hl => by
    by_cases hx : ∃ x : Nat, x < nb ∧ rd o (x : Int) = (l : Int)
    · obtain ⟨x, hx, he⟩ := hx
      exact .inl ⟨x, hx, (matchAt_iff hk hl hx).mpr he, he⟩
    · exact .inr (matchAt_none hl nb fun x hx2 he => hx ⟨x, hx2, he⟩)
  refine ⟨matchAt_len _ _ _, fun l hl => ?_, fun l b hl h => ?_, fun l l' b hl hl' h h' => ?_⟩
  · rcases hsome l hl with ⟨b, hb, h, _⟩ | h <;> omega
  · rcases hsome l hl with ⟨b', hb, h1, h2⟩ | h1
    · obtain rfl : b' = b := by omega
      exact hk.fit b' l hb h2
    · omega
  · rcases hsome l hl with ⟨b1, hb1, h1, h2⟩ | h1
    · rcases hsome l' hl' with ⟨b2, hb2, h3, h4⟩ | h3
      · obtain rfl : b1 = b := by omega
        obtain rfl : b2 = b1 := by omega
        omega
      · omega
    · omega
theorem IsM.le_cover {F : Nat → Nat → Bool} {nb n : Nat} {x : List Int} (h : IsM F nb n x) (A B : List Int) (hc : ∀ l b : Nat, l < n → b < nb → F l b = true → (l : Int) ∈ A ∨ (b : Int) ∈ B) :
    cnt (fun l => decide (rd x (l : Int) ≥ 0)) n ≤ A.length + B.length := by
  have h1 : cnt (fun l => decide (rd x (l : Int) ≥ 0)) n ≤ cnt (fun j => if j < n then decide ((j : Int) ∈ A) else decide (((j - n : Nat) : Int) ∈ B)) (n + nb) := by
    refine cnt_inj (fun l => if (l : Int) ∈ A then l else n + (rd x (l : Int)).toNat) _ n (fun l hl hp => ?_) (fun l l' hl hl' hp hp' e => ?_)
    · have hp : rd x (l : Int) ≥ 0 := by simpa using hp
      obtain ⟨b, hb⟩ := exists_nat_of_nonneg hp
      have hr := h.rng l hl
      by_cases ha : (l : Int) ∈ A
      · rw [if_pos ha]; exact ⟨by omega, by rw [if_pos hl]; exact decide_eq_true ha⟩
      · rw [if_neg ha, hb, toNat_nat]
        refine ⟨by omega, ?_⟩
        rw [if_neg (by omega), show n + b - n = b by omega]
        rcases hc l b hl (by omega) (h.fit l b hl hb) with h2 | h2
        · exact absurd h2 ha
        · exact decide_eq_true h2
    · have hp : rd x (l : Int) ≥ 0 := by simpa using hp
      have hp' : rd x (l' : Int) ≥ 0 := by simpa using hp'
      obtain ⟨b, hb⟩ := exists_nat_of_nonneg hp
      obtain ⟨b', hb'⟩ := exists_nat_of_nonneg hp'
      rw [hb, hb', toNat_nat, toNat_nat] at e
      by_cases ha : (l : Int) ∈ A <;> by_cases ha' : (l' : Int) ∈ A
      · rw [if_pos ha, if_pos ha'] at e; exact e
      · rw [if_pos ha, if_neg ha'] at e; omega
      · rw [if_neg ha, if_pos ha'] at e; omega
      · rw [if_neg ha, if_neg ha'] at e
        obtain rfl : b = b' := by omega
        exact h.inj l l' b hl hl' hb hb'
  rw [cnt_add] at h1
  have e1 : cnt (fun j => if j < n then decide ((j : Int) ∈ A) else decide (((j - n : Nat) : Int) ∈ B)) n = cnt (fun j => decide ((j : Int) ∈ A)) n := cnt_congr fun i hi => by rw [if_pos hi]
  have e2 : cnt (fun j => (fun j => if j < n then decide ((j : Int) ∈ A) else decide (((j - n : Nat) : Int) ∈ B)) (n + j)) nb = cnt (fun j => decide ((j : Int) ∈ B)) nb := cnt_congr fun i hi => by
    dsimp only
    rw [if_neg (by omega), show n + i - n = i by omega]
  rw [e1, e2] at h1
  have := cnt_mem A n
  have := cnt_mem B nb
  omega
theorem reach_cover {F : Nat → Nat → Bool} {nb n : Nat} {o : List Int} {ls bs : List Bool} (hR : IsReach F nb n o ls bs) (l b : Nat) (hl : l < n) (hb : b < nb) (hf : F l b = true) : (l : Int) ∈ numsOf ls false n ∨ (b : Int) ∈ numsOf bs true nb := by
  by_cases h : rdOf false ls (l : Int) = true
  · exact .inr ((numsOf_mem _ _ _ _).mpr ⟨b, rfl, hb, (hR.rb b hb).mpr ⟨hb, l, (hR.rl l hl).mp h, hf⟩⟩)
  · exact .inl ((numsOf_mem _ _ _ _).mpr ⟨l, rfl, hl, by simpa using h⟩)
theorem slices_Contains_ev (l : List Int) (a : Int) (hl : l.length ≤ 1048576) : Ev (fun k => slices_Contains_int_int.f k l a) (decide (a ∈ l)) := by
  unfold slices_Contains_int_int.f slices_Index_int_int.f
  have gen : ∀ (d i : Nat), i + d = l.length → ∃ j : Int, Ev (fun k => slices_Index_int_int.l0 k l a (l.length : Int) (i : Int)) j ∧ (decide (j ≥ 0) = decide (a ∈ l.drop i)) := by
    intro d
    induction d with
    | zero =>
      intro i hi
      refine ⟨-1, ?_, by rw [List.drop_of_length_le (by omega)]; simp⟩
      refine Ev.succ ?_; simp only [slices_Index_int_int.l0]; exact Ev.neg (by omega) (Ev.now _)
    | succ d ih =>
      intro i hi
      have hi' : i < l.length := by omega
      by_cases he : a = l[i]
      · refine ⟨i, ?_, ?_⟩
        · refine Ev.succ ?_
          simp only [slices_Index_int_int.l0]
          rw [rd_nat l i hi']
          exact Ev.pos (by omega) (Ev.pos (by omega) (Ev.pos (by omega) (Ev.pos he (Ev.now _))))
        · rw [List.drop_eq_getElem_cons hi', ← he]; simp
      · obtain ⟨j, h1, h2⟩ := ih (i + 1) (by omega)
        refine ⟨j, ?_, ?_⟩
        · refine Ev.succ ?_
          simp only [slices_Index_int_int.l0]
          rw [rd_nat l i hi', w64n hi' (by omega)]
          exact Ev.pos (by omega) (Ev.pos (by omega) (Ev.pos (by omega) (Ev.neg he h1)))
        · rw [h2, decide_eq_decide, List.drop_eq_getElem_cons hi', List.mem_cons]
          exact ⟨.inr, fun h => h.elim (fun h => absurd h he) id⟩
  obtain ⟨j, h1, h2⟩ := gen l.length 0 (by omega)
  refine Ev.to (Ev.bind h1 (Ev.now _)) ?_
  rw [h2, List.drop_zero]

def okAt (fits : List (List Bool)) (m : List Int) (i : Nat) : Bool := decide (rd m (i : Int) = -1) || ((decide (0 ≤ rd m (i : Int)) && decide (rd m (i : Int) < nbOf fits)) && (rdOf false (fits.getD i []) (rd m (i : Int)) && !decide (rd m (i : Int) ∈ m.take i)))
def isMat (fits : List (List Bool)) (m : List Int) : Bool := decide (m.length = fits.length) && allTo (okAt fits m) m.length
def isMF (fits : List (List Bool)) (m : List Int) : Bool × Bool := if fitOk fits = true then (isMat fits m, true) else (false, false)
theorem ite_bool (b : Bool) : (if b = true then (true, true) else (false, true)) = (b, true) := by cases b <;> rfl
def countB (m : List Int) : Bool := decide (m.length ≤ 8) && allIn m (-1) 7
def countF (m : List Int) : Int × Bool := if countB m = true then ((cnt (fun l => decide (rd m (l : Int) ≥ 0)) m.length : Nat), true) else (0, false)

theorem impl_CountIn_ev (m : List Int) (h : m.length ≤ 1048576) : Ev (fun k => impl_CountIn.f k m) (countF m) := by
  unfold impl_CountIn.f countF countB
  have no : ∀ x : Bool, x = true → Ev (fun k => impl_CountIn.j0 k m x) (0, false) := fun x hx => by
    refine Ev.succ ?_; simp only [impl_CountIn.j0]; exact Ev.pos hx (Ev.now _)
  by_cases h8 : (m.length : Int) > 8
  · rw [decide_eq_false (by omega), Bool.false_and, if_neg (by simp)]; exact Ev.pos h8 (no _ rfl)
  · rw [decide_eq_true (by omega), Bool.true_and]
    refine Ev.neg h8 (Ev.bind (impl_allWithin_ev m (-1) 7 (by omega)) ?_)
    cases hb : allIn m (-1) 7 with
    | false => rw [if_neg (by simp)]; exact no _ rfl
    | true =>
      rw [if_pos rfl]
      refine Ev.succ ?_
      simp only [impl_CountIn.j0]
      refine Ev.neg (by simp) ?_
      refine ev_up m.length (fun k i => impl_CountIn.l0 k ((cnt (fun l => decide (rd m (l : Int) ≥ 0)) i : Nat) : Int) m (m.length : Int) (i : Int)) _ (fun _ => True) trivial ?_ ?_
      · intro _; refine Ev.succ ?_; simp only [impl_CountIn.l0]; exact Ev.neg (by omega) (Ev.now _)
      · intro i hi _ hn
        have hn := hn trivial
        have := cnt_le (fun l => decide (rd m (l : Int) ≥ 0)) i
        refine Ev.succ ?_
        simp only [impl_CountIn.l0]
        rw [w64n hi (by omega), w64 (by omega) (by omega)]
        simp only [cnt] at hn
        refine Ev.pos (by omega) (Ev.pos (by omega) (Ev.pos (by omega) (Ev.ite (fun h1 => ?_) (fun h1 => ?_))))
        · rw [decide_eq_true h1] at hn; exact hn
        · rw [decide_eq_false h1] at hn; exact hn

theorem IsM.countB {F : Nat → Nat → Bool} {nb n : Nat} {x : List Int} (h : IsM F nb n x) (hn : n ≤ 8) (hb : nb ≤ 8) : countF x = (((cnt (fun l => decide (rd x (l : Int) ≥ 0)) n : Nat) : Int), true) := by
  have hl := h.len
  have hc : Pure.countB x = true := by
    unfold Pure.countB
    rw [Bool.and_eq_true, decide_eq_true_eq, allIn_iff]
    refine ⟨by omega, fun z hz => ?_⟩
    obtain ⟨i, hi, rfl⟩ := List.getElem_of_mem hz
    have := h.rng i (by omega)
    rw [rd_nat x i hi] at this
    omega
  unfold countF
  rw [if_pos hc, hl]

theorem cur_fits (l : List Int) (a s : Int) (hl : bytesOk l) (ha : 0 ≤ a ∧ a ≤ 4611686018427380000) :
    ∃ (r : List (List Bool)) (a' s' : Int), Ev (fun k => spec_l1Cur_fits.f k l a s) (r, a', s') ∧ r.length ≤ 100 ∧ a ≤ a' ∧ a' ≤ a + 1000 := by
  have rows : ∀ (n m : Nat) (x : List (List Bool)) (a s : Int), m ≤ 10 → x.length + n ≤ 100 → (∀ r ∈ x, r.length = m) → (0 ≤ a ∧ a + 20 * n + 10 ≤ 4611686018427387000) →
      ∃ (r : List (List Bool)) (a' s' : Int), Ev (fun k => spec_l1Cur_fits.l0 k (n : Int) (m : Int) x l a s) (r, a', s') ∧ r.length ≤ 100 ∧ a ≤ a' ∧ a' ≤ a + 20 * n + 10 := by
    intro n
    induction n with
    | zero =>
      intro m x a s hm hx hr ha
      by_cases h1 : (x.length : Int) > 1
      · by_cases h2 : (m : Int) > 0
        · obtain ⟨b, a1, s1, e1, q1⟩ := cur_one l a s 30 hl (by omega)
          cases b with
          | true =>
            refine ⟨x.set 1 ((rd_L7 x 1).drop 1), a1, s1, Ev.succ ?_, by rw [List.length_set]; omega, by omega, by omega⟩
            simp only [spec_l1Cur_fits.l0]
            refine Ev.neg (by omega) (Ev.pos h1 (Ev.pos h2 (Ev.bind0 e1 (Ev.pos rfl (Ev.pos (by omega) (Ev.pos ?_ (Ev.now _)))))))
            have e : rd_L7 x 1 = x[1] := by rw [show (1 : Int) = ((1 : Nat) : Int) from rfl, fits_rd, fits_get x 1 (by omega)]
            rw [e, hr _ (List.getElem_mem (by omega))]; omega
          | false =>
            refine ⟨x, a1, s1, Ev.succ ?_, by omega, by omega, by omega⟩
            simp only [spec_l1Cur_fits.l0]
            exact Ev.neg (by omega) (Ev.pos h1 (Ev.pos h2 (Ev.bind0 e1 (Ev.neg (by simp) (Ev.now _)))))
        · refine ⟨x, a, s, Ev.succ ?_, by omega, by omega, by omega⟩
          simp only [spec_l1Cur_fits.l0]
          exact Ev.neg (by omega) (Ev.pos h1 (Ev.neg h2 (Ev.now _)))
      · refine ⟨x, a, s, Ev.succ ?_, by omega, by omega, by omega⟩
        simp only [spec_l1Cur_fits.l0]
        exact Ev.neg (by omega) (Ev.neg h1 (Ev.now _))
    | succ n ih =>
      intro m x a s hm hx hr ha
      have bins : ∀ (d i : Nat) (y : List Bool) (a s : Int), i + d = m → y.length = i → (0 ≤ a ∧ a + 2 * d + 20 * n + 10 ≤ 4611686018427387000) →
          ∃ (r : List (List Bool)) (a' s' : Int), Ev (fun k => spec_l1Cur_fits.l1 k ((n + 1 : Nat) : Int) (m : Int) x y (i : Int) l a s) (r, a', s') ∧ r.length ≤ 100 ∧ a ≤ a' ∧ a' ≤ a + 2 * d + 20 * n + 10 := by
        intro d
        induction d with
        | zero =>
          intro i y a s hi hy ha
          obtain ⟨r, a1, s1, hE, h1, h2, h3⟩ := ih m (x ++ [y]) a s hm (by simp; omega) (fun r hr2 => by
            rcases List.mem_append.mp hr2 with h | h
            · exact hr r h
            · rw [List.mem_singleton.mp h]; omega) (by omega)
          refine ⟨r, a1, s1, Ev.succ ?_, h1, by omega, by omega⟩
          simp only [spec_l1Cur_fits.l1]
          rw [w64 (x := ((n + 1 : Nat) : Int) - 1) (by omega) (by omega), show ((n + 1 : Nat) : Int) - 1 = (n : Int) by omega]
          exact Ev.neg (by omega) (Ev.pos (by omega) hE)
        | succ d ihd =>
          intro i y a s hi hy ha
          obtain ⟨b, a1, s1, e1, q1⟩ := cur_one l a s 3 hl (by omega)
          obtain ⟨r, a2, s2, hE, h1, h2, h3⟩ := ihd (i + 1) (y ++ [b]) a1 s1 (by omega) (by simp; omega) (by omega)
          refine ⟨r, a2, s2, Ev.succ ?_, h1, by omega, by omega⟩
          simp only [spec_l1Cur_fits.l1]
          rw [w64 (x := (i : Int) + 1) (by omega) (by omega)]
          exact Ev.pos (by omega) (Ev.bind0 e1 (Ev.pos (by omega) hE))
      obtain ⟨r, a1, s1, hE, h1, h2, h3⟩ := bins m 0 [] a s (by omega) rfl (by omega)
      refine ⟨r, a1, s1, Ev.succ ?_, h1, by omega, by omega⟩
      simp only [spec_l1Cur_fits.l0]
      exact Ev.pos (by omega) hE
  unfold spec_l1Cur_fits.f
  obtain ⟨n, a1, s1, e1, n0, n1, n2, n3⟩ := cur_pick l a s 6 hl (by omega)
  obtain ⟨m, a2, s2, e2, m0, m1, m2, m3⟩ := cur_pick l a1 s1 6 hl (by omega)
  obtain ⟨b, a3, s3, e3, b1, b2⟩ := cur_one l a2 s2 20 hl (by omega)
  obtain ⟨m', rfl⟩ := exists_nat_of_nonneg m0
  cases b with
  | true =>
    obtain ⟨p, a4, s4, e4, p0, p1, p2, p3⟩ := cur_pick l a3 s3 2 hl (by omega)
    obtain ⟨n', hn'⟩ := exists_nat_of_nonneg (show 0 ≤ 8 + p by omega)
    obtain ⟨r, a5, s5, hE, h1, h2, h3⟩ := rows n' m' [] a4 s4 (by omega) (by simp; omega) (by simp) (by omega)
    refine ⟨r, a5, s5, Ev.bind0 e1 (Ev.bind0 e2 (Ev.bind0 e3 (Ev.pos rfl (Ev.bind0 e4 (Ev.succ ?_))))), h1, by omega, by omega⟩
    simp only [spec_l1Cur_fits.j0]
    rw [w64 (by omega) (by omega), hn']; exact hE
  | false =>
    obtain ⟨n', rfl⟩ := exists_nat_of_nonneg n0
    obtain ⟨r, a5, s5, hE, h1, h2, h3⟩ := rows n' m' [] a3 s3 (by omega) (by simp; omega) (by simp) (by omega)
    refine ⟨r, a5, s5, Ev.bind0 e1 (Ev.bind0 e2 (Ev.bind0 e3 (Ev.neg (by simp) (Ev.succ ?_)))), h1, by omega, by omega⟩
    simp only [spec_l1Cur_fits.j0]; exact hE

def riseAt (l : List Int) (n : Int) (i : Nat) : Bool := (decide (0 ≤ rd l (i : Int)) && decide (rd l (i : Int) < n)) && (decide (i = 0) || decide (rd l ((i - 1 : Nat) : Int) < rd l (i : Int)))
def rising (l : List Int) (n : Int) : Bool := allTo (riseAt l n) l.length
theorem allIn_rd (l : List Int) (lo hi : Int) : allIn l lo hi = true ↔ ∀ i : Nat, i < l.length → lo ≤ rd l (i : Int) ∧ rd l (i : Int) ≤ hi := by
  rw [allIn_iff]
  constructor
  · intro h i hi; rw [rd_nat l i hi]; exact h _ (List.getElem_mem hi)
  · intro h z hz
    obtain ⟨i, hi, rfl⟩ := List.getElem_of_mem hz
    have := h i hi
    rwa [rd_nat l i hi] at this

theorem impl_isRising_ev (l : List Int) (n : Int) (hl : l.length ≤ 1048576) (hn : 0 ≤ n ∧ n ≤ 1000) : Ev (fun k => impl_isRising.f k l n) (rising l n) := by
  unfold impl_isRising.f
  have key := ev_all l.length (fun i => decide (i = 0) || decide (rd l ((i - 1 : Nat) : Int) < rd l (i : Int))) (fun k i => impl_isRising.l0 k l n l (l.length : Int) (i : Int)) (allIn l 0 (n - 1)) false
    (fun r i hi hp hn => ?_) (fun i hi hp => ?_) (fun _ => ?_) (allTo (fun i => decide (i = 0) || decide (rd l ((i - 1 : Nat) : Int) < rd l (i : Int))) l.length) (allTo_iff _ _)
  · refine Ev.to key ?_
    rw [Bool.eq_iff_iff]
    unfold rising
    rw [allTo_iff (riseAt l n)]
    constructor
    · intro h
      split at h
      · rename_i h1
        rw [allTo_iff] at h1
        rw [allIn_rd] at h
        intro i hi
        have a1 := h1 i hi
        have a2 := h i hi
        unfold riseAt
        rw [a1, decide_eq_true a2.1, decide_eq_true (show rd l (i : Int) < n by omega)]; rfl
      · cases h
    · intro h
      have h1 : allTo (fun i => decide (i = 0) || decide (rd l ((i - 1 : Nat) : Int) < rd l (i : Int))) l.length = true := (allTo_iff _ _).mpr fun i hi => by
        have := h i hi
        unfold riseAt at this
        rw [Bool.and_eq_true] at this
        exact this.2
      rw [if_pos h1, allIn_rd]
      intro i hi
      have := h i hi
      unfold riseAt at this
      rw [Bool.and_eq_true, Bool.and_eq_true, decide_eq_true_eq, decide_eq_true_eq] at this
      omega
  · refine Ev.succ ?_
    simp only [impl_isRising.l0]
    rw [w64n hi (by omega)]
    refine Ev.pos (by omega) (Ev.pos (by omega) (Ev.pos (by omega) (Ev.ite (fun h0 => ?_) (fun _ => hn))))
    rw [w64 (by omega) (by omega), show (i : Int) - 1 = ((i - 1 : Nat) : Int) by omega]
    refine Ev.pos (by omega) (Ev.pos (by omega) (Ev.neg ?_ hn))
    rw [Bool.or_eq_true, decide_eq_true_eq, decide_eq_true_eq] at hp
    omega
  · refine Ev.succ ?_
    simp only [impl_isRising.l0]
    rw [Bool.or_eq_false_iff, decide_eq_false_iff_not, decide_eq_false_iff_not] at hp
    refine Ev.pos (by omega) (Ev.pos (by omega) (Ev.pos (by omega) (Ev.pos (by omega) ?_)))
    rw [w64 (by omega) (by omega), show (i : Int) - 1 = ((i - 1 : Nat) : Int) by omega]
    exact Ev.pos (by omega) (Ev.pos (by omega) (Ev.pos (by omega) (Ev.now _)))
  · refine Ev.succ ?_
    simp only [impl_isRising.l0]
    rw [w64 (x := n - 1) (by omega) (by omega)]
    exact Ev.neg (by omega) (Ev.bind (impl_allWithin_ev l 0 (n - 1) (by omega)) (Ev.now _))

theorem spec_l8Rising_ev (l : List Int) (n : Int) (hl : l.length ≤ 1048576) : Ev (fun k => spec_l8Rising.f k l n) (rising l n) := by
  unfold spec_l8Rising.f
  have key := ev_all l.length (riseAt l n) (fun k i => spec_l8Rising.l0 k l n l (l.length : Int) (i : Int)) true false
    (fun r i hi hp hn => ?_) (fun i hi hp => ?_) (fun _ => ?_) (allTo (riseAt l n) l.length) (allTo_iff _ _)
  · refine Ev.to key ?_
    unfold rising; cases allTo (riseAt l n) l.length <;> rfl
  · unfold riseAt at hp
    rw [Bool.and_eq_true, Bool.and_eq_true, decide_eq_true_eq, decide_eq_true_eq, Bool.or_eq_true, decide_eq_true_eq, decide_eq_true_eq] at hp
    refine Ev.succ ?_
    simp only [spec_l8Rising.l0]
    rw [w64n hi (by omega)]
    refine Ev.pos (by omega) (Ev.pos (by omega) (Ev.pos (by omega) (Ev.neg (by omega) (Ev.neg (by omega) (Ev.ite (fun h0 => ?_) (fun _ => hn))))))
    rw [w64 (by omega) (by omega), show (i : Int) - 1 = ((i - 1 : Nat) : Int) by omega]
    exact Ev.pos (by omega) (Ev.pos (by omega) (Ev.neg (by omega) hn))
  · refine Ev.succ ?_
    simp only [spec_l8Rising.l0]
    refine Ev.pos (by omega) (Ev.pos (by omega) (Ev.pos (by omega) (Ev.ite (fun _ => Ev.now _) (fun h1 => Ev.ite (fun _ => Ev.now _) (fun h2 => ?_)))))
    unfold riseAt at hp
    rw [decide_eq_true (show 0 ≤ rd l (i : Int) by omega), decide_eq_true (show rd l (i : Int) < n by omega), Bool.and_self, Bool.true_and, Bool.or_eq_false_iff, decide_eq_false_iff_not, decide_eq_false_iff_not] at hp
    refine Ev.pos (by omega) ?_
    rw [w64 (by omega) (by omega), show (i : Int) - 1 = ((i - 1 : Nat) : Int) by omega]
    exact Ev.pos (by omega) (Ev.pos (by omega) (Ev.pos (by omega) (Ev.now _)))
  · refine Ev.succ ?_; simp only [spec_l8Rising.l0]; exact Ev.neg (by omega) (Ev.now _)

def coverAt (fits : List (List Bool)) (a b : List Int) (i j : Nat) : Bool := !fitF fits i j || (decide ((i : Int) ∈ a) || decide ((j : Int) ∈ b))
def isCov (fits : List (List Bool)) (a b : List Int) : Bool := allTo (fun i => allTo (coverAt fits a b i) (nbOf fits)) fits.length
def isCF (fits : List (List Bool)) (a b : List Int) : Bool × Bool := if fitOk fits = true ∧ rising a fits.length = true ∧ rising b (nbOf fits) = true then (isCov fits a b, true) else (false, false)
theorem isCov_iff (fits : List (List Bool)) (a b : List Int) : isCov fits a b = true ↔ ∀ i j : Nat, i < fits.length → j < nbOf fits → fitF fits i j = true → (i : Int) ∈ a ∨ (j : Int) ∈ b := by
  unfold isCov
  rw [allTo_iff]
  constructor
  · intro h i j hi hj hf
    have := (allTo_iff _ _).mp (h i hi) j hj
    unfold coverAt at this
    rw [hf, Bool.not_true, Bool.false_or, Bool.or_eq_true, decide_eq_true_eq, decide_eq_true_eq] at this
    exact this
  · intro h i hi
    refine (allTo_iff _ _).mpr fun j hj => ?_
    unfold coverAt
    cases hf : fitF fits i j with
    | false => rfl
    | true =>
      rw [Bool.not_true, Bool.false_or, Bool.or_eq_true, decide_eq_true_eq, decide_eq_true_eq]
      exact h i j hi hj hf

theorem impl_IsCover_ev (fits : List (List Bool)) (a b : List Int) (h : fits.length ≤ 1048576) (ha : a.length ≤ 1048576) (hb : b.length ≤ 1048576) : Ev (fun k => impl_IsCover.f k fits a b) (isCF fits a b) := by
  unfold impl_IsCover.f isCF
  have no : ∀ x : Bool, x = true → Ev (fun k => impl_IsCover.j0 k fits a b x) (false, false) := fun x hx => by
    refine Ev.succ ?_; simp only [impl_IsCover.j0]; exact Ev.pos hx (Ev.now _)
  refine Ev.bind (impl_GoodFits_ev fits h) (Ev.ite (fun hg => ?_) (fun hg => by rw [if_neg fun h => hg h.1]; exact no _ rfl))
  obtain ⟨h8, hb8, hw⟩ := (fitOk_iff fits).mp hg
  refine Ev.bind (impl_isRising_ev a _ ha (by omega)) (Ev.ite (fun h1 => Ev.bind0 (impl_binsOf_eq fits) (Ev.bind (impl_isRising_ev b _ hb (by omega)) ?_)) (fun h1 => by rw [if_neg fun h => h1 h.2.1]; exact no _ rfl))
  by_cases h2 : rising b (nbOf fits) = true
  · rw [if_pos ⟨hg, h1, h2⟩, h2]
    refine Ev.succ ?_
    simp only [impl_IsCover.j0]
    refine Ev.neg (by simp) ?_
    rw [← ite_bool (isCov fits a b)]
    refine ev_all fits.length (fun i => allTo (coverAt fits a b i) (nbOf fits)) (fun k i => impl_IsCover.l0 k a b fits (fits.length : Int) (i : Int)) (true, true) (false, true) (fun r i hi hp hn => ?_) (fun i hi hp => ?_) (fun _ => ?_) _ (allTo_iff _ _)
    · refine Ev.succ ?_
      simp only [impl_IsCover.l0]
      rw [fits_rd, hw i hi]
      refine Ev.pos (by omega) (Ev.pos (by omega) (Ev.pos (by omega) ?_))
      have key := ev_all (nbOf fits) (coverAt fits a b i) (fun k j => impl_IsCover.l1 k a b (i : Int) fits (fits.length : Int) (i : Int) (fits.getD i []) (nbOf fits : Int) (j : Int)) r r (fun r j hj hp hn => ?_) (fun j hj hp2 => ?_) (fun _ => ?_) true ((allTo_iff (coverAt fits a b i) _).symm.trans (by rw [hp]) |>.symm)
      · simpa using key
      · refine Ev.succ ?_
        simp only [impl_IsCover.l1]
        rw [w64n hj (by omega)]
        refine Ev.pos (by omega) (Ev.pos (by omega) (Ev.pos (by rw [hw i hi]; omega) (Ev.ite (fun hf => Ev.bind (slices_Contains_ev a _ ha) (Ev.ite (fun _ => hn) (fun h3 => Ev.bind (slices_Contains_ev b _ hb) (Ev.pos ?_ hn)))) (fun _ => hn))))
        unfold coverAt at hp
        rw [show fitF fits i j = true from hf, Bool.not_true, Bool.false_or, Bool.eq_false_iff.mpr h3, Bool.false_or] at hp
        exact hp
      · have := (allTo_iff _ _).mp hp j hj
        rw [hp2] at this; cases this
      · refine Ev.succ ?_
        simp only [impl_IsCover.l1]
        rw [w64n hi (by omega)]
        exact Ev.neg (by omega) hn
    · refine Ev.succ ?_
      simp only [impl_IsCover.l0]
      rw [fits_rd, hw i hi]
      refine Ev.pos (by omega) (Ev.pos (by omega) (Ev.pos (by omega) ?_))
      have hex : ∃ j, j < nbOf fits ∧ coverAt fits a b i j = false := by
        refine Classical.byContradiction fun hc => ?_
        have : allTo (coverAt fits a b i) (nbOf fits) = true := (allTo_iff _ _).mpr fun j hj => by
          cases hq : coverAt fits a b i j with
          | true => rfl
          | false => exact absurd ⟨j, hj, hq⟩ hc
        rw [hp] at this; cases this
      obtain ⟨m, ⟨hm1, hm2⟩, hmin⟩ := exists_least hex
      refine ev_up m (fun k j => impl_IsCover.l1 k a b (i : Int) fits (fits.length : Int) (i : Int) (fits.getD i []) (nbOf fits : Int) (j : Int)) (false, true) (fun _ => True) trivial (fun _ => ?_) (fun j hj _ hn => ?_)
      · unfold coverAt at hm2
        rw [Bool.or_eq_false_iff, Bool.or_eq_false_iff, Bool.not_eq_false'] at hm2
        refine Ev.succ ?_
        simp only [impl_IsCover.l1]
        exact Ev.pos (by omega) (Ev.pos (by omega) (Ev.pos (by rw [hw i hi]; omega) (Ev.pos hm2.1 (Ev.bind (slices_Contains_ev a _ ha) (Ev.neg (by rw [hm2.2.1]; simp) (Ev.bind (slices_Contains_ev b _ hb) (Ev.neg (by rw [hm2.2.2]; simp) (Ev.now _))))))))
      · have hn := hn trivial
        have hc : coverAt fits a b i j = true := by
          cases hq : coverAt fits a b i j with
          | true => rfl
          | false => have := hmin j ⟨by omega, hq⟩; omega
        refine Ev.succ ?_
        simp only [impl_IsCover.l1]
        rw [w64 (x := (j : Int) + 1) (by omega) (by omega)]
        refine Ev.pos (by omega) (Ev.pos (by omega) (Ev.pos (by rw [hw i hi]; omega) (Ev.ite (fun hf => Ev.bind (slices_Contains_ev a _ ha) (Ev.ite (fun _ => hn) (fun h3 => Ev.bind (slices_Contains_ev b _ hb) (Ev.pos ?_ hn)))) (fun _ => hn))))
        unfold coverAt at hc
        rw [show fitF fits i j = true from hf, Bool.not_true, Bool.false_or, Bool.eq_false_iff.mpr h3, Bool.false_or] at hc
        exact hc
    · refine Ev.succ ?_; simp only [impl_IsCover.l0]; exact Ev.neg (by omega) (Ev.now _)
  · rw [if_neg fun h => h2 h.2.2, Bool.eq_false_iff.mpr h2]; exact no _ rfl

theorem spec_IsCover_ev (fits : List (List Bool)) (a b : List Int) (h : fits.length ≤ 1048576) (ha : a.length ≤ 1048576) (hb : b.length ≤ 1048576) : Ev (fun k => spec_IsCover.f k fits a b) (isCF fits a b) := by
  unfold spec_IsCover.f isCF
  have no : ∀ x : Bool, x = true → Ev (fun k => spec_IsCover.j0 k fits a b x) (false, false) := fun x hx => by
    refine Ev.succ ?_; simp only [spec_IsCover.j0]; exact Ev.pos hx (Ev.now _)
  refine Ev.bind (spec_GoodFits_ev fits h) (Ev.ite (fun hg => ?_) (fun hg => by rw [if_neg fun h => hg h.1]; exact no _ rfl))
  obtain ⟨h8, hb8, hw⟩ := (fitOk_iff fits).mp hg
  refine Ev.bind (spec_l8Rising_ev a _ ha) (Ev.ite (fun h1 => Ev.bind0 (spec_l8Bins_eq fits) (Ev.bind (spec_l8Rising_ev b _ hb) ?_)) (fun h1 => by rw [if_neg fun h => h1 h.2.1]; exact no _ rfl))
  by_cases h2 : rising b (nbOf fits) = true
  · rw [if_pos ⟨hg, h1, h2⟩, h2]
    refine Ev.succ ?_
    simp only [spec_IsCover.j0]
    refine Ev.neg (by simp) ?_
    rw [← ite_bool (isCov fits a b)]
    refine ev_all fits.length (fun i => allTo (coverAt fits a b i) (nbOf fits)) (fun k i => spec_IsCover.l0 k a b fits (fits.length : Int) (i : Int)) (true, true) (false, true) (fun r i hi hp hn => ?_) (fun i hi hp => ?_) (fun _ => ?_) _ (allTo_iff _ _)
    · refine Ev.succ ?_
      simp only [spec_IsCover.l0]
      rw [fits_rd, hw i hi]
      refine Ev.pos (by omega) (Ev.pos (by omega) (Ev.pos (by omega) ?_))
      have key := ev_all (nbOf fits) (coverAt fits a b i) (fun k j => spec_IsCover.l1 k a b (i : Int) fits (fits.length : Int) (i : Int) (fits.getD i []) (nbOf fits : Int) (j : Int)) r r (fun r j hj hp hn => ?_) (fun j hj hp2 => ?_) (fun _ => ?_) true ((allTo_iff (coverAt fits a b i) _).symm.trans (by rw [hp]) |>.symm)
      · simpa using key
      · refine Ev.succ ?_
        simp only [spec_IsCover.l1]
        rw [w64n hj (by omega)]
        refine Ev.pos (by omega) (Ev.pos (by omega) (Ev.pos (by rw [hw i hi]; omega) (Ev.ite (fun hf => Ev.bind (spec_l1Has_ev a _ (by omega)) (Ev.ite (fun _ => hn) (fun h3 => Ev.bind (spec_l1Has_ev b _ (by omega)) (Ev.pos ?_ hn)))) (fun _ => hn))))
        unfold coverAt at hp
        rw [show fitF fits i j = true from hf, Bool.not_true, Bool.false_or, Bool.eq_false_iff.mpr h3, Bool.false_or] at hp
        exact hp
      · have := (allTo_iff _ _).mp hp j hj
        rw [hp2] at this; cases this
      · refine Ev.succ ?_
        simp only [spec_IsCover.l1]
        rw [w64n hi (by omega)]
        exact Ev.neg (by omega) hn
    · refine Ev.succ ?_
      simp only [spec_IsCover.l0]
      rw [fits_rd, hw i hi]
      refine Ev.pos (by omega) (Ev.pos (by omega) (Ev.pos (by omega) ?_))
      have hex : ∃ j, j < nbOf fits ∧ coverAt fits a b i j = false := by
        refine Classical.byContradiction fun hc => ?_
        have : allTo (coverAt fits a b i) (nbOf fits) = true := (allTo_iff _ _).mpr fun j hj => by
          cases hq : coverAt fits a b i j with
          | true => rfl
          | false => exact absurd ⟨j, hj, hq⟩ hc
        rw [hp] at this; cases this
      obtain ⟨m, ⟨hm1, hm2⟩, hmin⟩ := exists_least hex
      refine ev_up m (fun k j => spec_IsCover.l1 k a b (i : Int) fits (fits.length : Int) (i : Int) (fits.getD i []) (nbOf fits : Int) (j : Int)) (false, true) (fun _ => True) trivial (fun _ => ?_) (fun j hj _ hn => ?_)
      · unfold coverAt at hm2
        rw [Bool.or_eq_false_iff, Bool.or_eq_false_iff, Bool.not_eq_false'] at hm2
        refine Ev.succ ?_
        simp only [spec_IsCover.l1]
        exact Ev.pos (by omega) (Ev.pos (by omega) (Ev.pos (by rw [hw i hi]; omega) (Ev.pos hm2.1 (Ev.bind (spec_l1Has_ev a _ (by omega)) (Ev.neg (by rw [hm2.2.1]; simp) (Ev.bind (spec_l1Has_ev b _ (by omega)) (Ev.neg (by rw [hm2.2.2]; simp) (Ev.now _))))))))
      · have hn := hn trivial
        have hc : coverAt fits a b i j = true := by
          cases hq : coverAt fits a b i j with
          | true => rfl
          | false => have := hmin j ⟨by omega, hq⟩; omega
        refine Ev.succ ?_
        simp only [spec_IsCover.l1]
        rw [w64 (x := (j : Int) + 1) (by omega) (by omega)]
        refine Ev.pos (by omega) (Ev.pos (by omega) (Ev.pos (by rw [hw i hi]; omega) (Ev.ite (fun hf => Ev.bind (spec_l1Has_ev a _ (by omega)) (Ev.ite (fun _ => hn) (fun h3 => Ev.bind (spec_l1Has_ev b _ (by omega)) (Ev.pos ?_ hn)))) (fun _ => hn))))
        unfold coverAt at hc
        rw [show fitF fits i j = true from hf, Bool.not_true, Bool.false_or, Bool.eq_false_iff.mpr h3, Bool.false_or] at hc
        exact hc
    · refine Ev.succ ?_; simp only [spec_IsCover.l0]; exact Ev.neg (by omega) (Ev.now _)
  · rw [if_neg fun h => h2 h.2.2, Bool.eq_false_iff.mpr h2]; exact no _ rfl

theorem numsOf_rise (l : List Bool) (so : Bool) (n : Nat) : rising (numsOf l so n) (n : Int) = true := by
  induction n with
  | zero => rfl
  | succ n ih =>
    have ih' := (allTo_iff _ _).mp ih
    have hle := numsOf_le l so n
    have up : ∀ i : Nat, i < (numsOf l so n).length → riseAt (numsOf l so n) ((n : Int) + 1) i = true := fun i hi => by
      have := ih' i hi
      unfold riseAt at this ⊢
      rw [Bool.and_eq_true, Bool.and_eq_true, decide_eq_true_eq, decide_eq_true_eq] at this
      rw [this.2, decide_eq_true this.1.1, decide_eq_true (show rd (numsOf l so n) (i : Int) < (n : Int) + 1 by omega)]; rfl
    simp only [numsOf]
    by_cases h : rdOf false l (n : Int) = so
    · rw [if_pos h]
      refine (allTo_iff _ _).mpr fun i hi => ?_
      rw [List.length_append, List.length_singleton] at hi
      have rd1 : ∀ j : Nat, j < (numsOf l so n).length → rd (numsOf l so n ++ [(n : Int)]) (j : Int) = rd (numsOf l so n) (j : Int) := fun j hj => by
        rw [rd_nat _ j hj, rd_nat _ j (by simp; omega), List.getElem_append_left hj]
      rcases Nat.lt_or_ge i (numsOf l so n).length with h1 | h1
      · have := up i h1
        unfold riseAt at this ⊢
        rw [rd1 i h1, rd1 (i - 1) (by omega)]
        exact this
      · obtain rfl : i = (numsOf l so n).length := by omega
        have e : rd (numsOf l so n ++ [(n : Int)]) ((numsOf l so n).length : Int) = (n : Int) := by rw [rd_nat _ _ (by simp)]; simp
        unfold riseAt
        rw [e, decide_eq_true (show (0 : Int) ≤ n by omega), decide_eq_true (show (n : Int) < ((n + 1 : Nat) : Int) by omega), Bool.and_self, Bool.true_and]
        by_cases h0 : (numsOf l so n).length = 0
        · rw [decide_eq_true h0]; rfl
        · rw [rd1 _ (by omega)]
          have := ih' ((numsOf l so n).length - 1) (by omega)
          unfold riseAt at this
          rw [Bool.and_eq_true, Bool.and_eq_true, decide_eq_true_eq, decide_eq_true_eq] at this
          rw [decide_eq_true this.1.2, Bool.or_true]
    · rw [if_neg h]; exact (allTo_iff _ _).mpr up

theorem spec_DrawCoverOf_ev (l : List Int) (hl : bytesOk l) : ∃ fits, Ev (fun k => spec_DrawCoverOf.f k l) fits ∧ fits.length ≤ 100 := by
  unfold spec_DrawCoverOf.f spec_DrawGoodFits.f
  obtain ⟨r, a, s, e, h, _⟩ := cur_fits l 0 0 hl (by omega)
  exact ⟨r, Ev.bind (Ev.bind e (Ev.now _)) (Ev.now _), h⟩
theorem spec_DrawIsCover_ev (l : List Int) (hl : bytesOk l) : ∃ (fits : List (List Bool)) (a b : List Int), Ev (fun k => spec_DrawIsCover.f k l) (fits, a, b) ∧ fits.length ≤ 100 ∧ a.length ≤ 100 ∧ b.length ≤ 100 := by
  unfold spec_DrawIsCover.f
  obtain ⟨r, a, s, e, h, q1, q2⟩ := cur_fits l 0 0 hl (by omega)
  obtain ⟨x, y, ok, _, hS, hx, hy, _⟩ := CoverOf_ev r (by omega)
  have one : ∀ (x : List Int) (a s : Int), x.length ≤ 100 → (0 ≤ a ∧ a ≤ 4611686018427387000) → ∃ (p q : List Int), Ev (fun k => spec_DrawIsCover.j1 k r x y l a s) (r, p, q) ∧ p.length ≤ 100 ∧ q.length ≤ 100 := by
    intro x a s hx ha
    by_cases h0 : (y.length : Int) > 0
    · obtain ⟨b, a3, s3, e3, b1, b2⟩ := cur_one l a s 6 hl (by omega)
      cases b with
      | true =>
        obtain ⟨p, a4, s4, e4, p0, p1, p2, p3⟩ := cur_pick l a3 s3 9 hl (by omega)
        refine ⟨x, y.set (0 : Int).toNat p, Ev.succ ?_, hx, by rw [List.length_set]; omega⟩
        simp only [spec_DrawIsCover.j1]
        exact Ev.pos h0 (Ev.bind0 e3 (Ev.pos rfl (Ev.bind0 e4 (Ev.pos (by omega) (Ev.now _)))))
      | false =>
        refine ⟨x, y, Ev.succ ?_, hx, by omega⟩
        simp only [spec_DrawIsCover.j1]
        exact Ev.pos h0 (Ev.bind0 e3 (Ev.neg (by simp) (Ev.now _)))
    · refine ⟨x, y, Ev.succ ?_, hx, by omega⟩
      simp only [spec_DrawIsCover.j1]
      exact Ev.neg h0 (Ev.now _)
  by_cases h0 : (x.length : Int) > 0
  · obtain ⟨b, a3, s3, e3, b1, b2⟩ := cur_one l a s 3 hl (by omega)
    cases b with
    | true =>
      obtain ⟨p, q, hE, hp, hq⟩ := one (x.drop (1 : Int).toNat) a3 s3 (by rw [List.length_drop]; omega) (by omega)
      refine ⟨r, p, q, Ev.bind e (Ev.bind hS (Ev.pos h0 (Ev.bind0 e3 (Ev.succ ?_)))), h, hp, hq⟩
      simp only [spec_DrawIsCover.j0]
      exact Ev.pos trivial (Ev.pos (by omega) hE)
    | false =>
      obtain ⟨p, q, hE, hp, hq⟩ := one x a3 s3 (by omega) (by omega)
      refine ⟨r, p, q, Ev.bind e (Ev.bind hS (Ev.pos h0 (Ev.bind0 e3 (Ev.succ ?_)))), h, hp, hq⟩
      simp only [spec_DrawIsCover.j0]
      exact Ev.neg (by simp) hE
  · obtain ⟨p, q, hE, hp, hq⟩ := one x a s (by omega) (by omega)
    refine ⟨r, p, q, Ev.bind e (Ev.bind hS (Ev.neg h0 (Ev.succ ?_))), h, hp, hq⟩
    simp only [spec_DrawIsCover.j0]
    exact Ev.neg (by simp) hE

theorem covers_rest (l : List Int) (hl : bytesOk l) : Ev (fun k => laws_FnCovers.j1 k l) true := by
  obtain ⟨g, a, b, ed, hg, ha, hb⟩ := spec_DrawIsCover_ev l hl
  refine Ev.succ ?_
  simp only [laws_FnCovers.j1]
  refine Ev.bind ed (Ev.bind (impl_IsCover_ev g a b (by omega) (by omega) (by omega)) (Ev.bind (spec_IsCover_ev g a b (by omega) (by omega) (by omega)) (Ev.neg (by simp) (Ev.succ ?_))))
  simp only [laws_FnCovers.j2, bne_self_eq_false, Bool.false_eq_true, if_false]
  have no : Ev (fun k => laws_FnCovers.j3 k g a b false) true := Ev.succ (by simp only [laws_FnCovers.j3]; exact Ev.neg (by simp) (Ev.now _))
  unfold isCF
  by_cases hok : fitOk g = true ∧ rising a g.length = true ∧ rising b (nbOf g) = true
  · rw [if_pos hok]
    refine Ev.pos rfl ?_
    dsimp only
    by_cases hc : isCov g a b = true
    · rw [hc]
      obtain ⟨h8, hb8, hw⟩ := (fitOk_iff g).mp hok.1
      obtain ⟨o, hK, hk⟩ := kuhn (fitF g) (nbOf g) g.length
      have hI := impl_MatchLoads_ev g (by omega) hK hk
      unfold matchF at hI
      rw [if_pos hok.1] at hI
      have hY := IsM.of_kuhn hk
      have hle := hY.le_cover a b ((isCov_iff g a b).mp hc)
      have e2 := impl_CountIn_ev (matchAt o g.length (nbOf g)) (by rw [matchAt_len]; omega)
      rw [hY.countB h8 hb8] at e2
      refine Ev.succ ?_
      simp only [laws_FnCovers.j3]
      refine Ev.pos (by first | trivial | rfl) (Ev.bind hI (Ev.bind e2 (Ev.pos (by first | trivial | rfl) (Ev.pos (by first | trivial | rfl) (Ev.to (Ev.now _) ?_)))))
      rw [w64 (by omega) (by omega)]
      exact decide_eq_true (by dsimp only; omega)
    · rw [Bool.eq_false_iff.mpr hc]; exact no
  · rw [if_neg hok]; exact Ev.neg (by simp) no
theorem FnCovers : laws_FnCovers.Pure := by
  intro l0 l1 _ hl0 hw0 _ hl1 hw1
  have b0 := bytesOk_of l0 hw0
  have b1 := bytesOk_of l1 hw1
  refine Ev.rounds (g := fun k => laws_FnCovers.f k l0 l1) ?_
  unfold laws_FnCovers.f
  refine Ev.ite (fun _ => Ev.now _) fun hs => ?_
  obtain ⟨f, ef, hf⟩ := spec_DrawCoverOf_ev l0 b0
  obtain ⟨a, b, ok, hI, hS, ha, hb, rfl, hx⟩ := CoverOf_ev f (by omega)
  refine Ev.bind ef (Ev.bind hI (Ev.bind hS ?_))
  simp only [bne_self_eq_false, Bool.false_eq_true, if_false]
  refine Ev.bind (laws_same_ev a (by omega)) (Ev.pos rfl (Ev.bind (laws_same_ev b (by omega)) (Ev.succ ?_)))
  simp only [laws_FnCovers.j0, Bool.not_true, Bool.false_eq_true, if_false]
  refine Ev.ite (fun hok => ?_) (fun _ => covers_rest l1 b1)
  obtain ⟨h8, hb8, hw⟩ := (fitOk_iff f).mp hok
  obtain ⟨o, hK, hk⟩ := kuhn (fitF f) (nbOf f) f.length
  obtain ⟨ls, bs, hR, rfl, rfl⟩ := hx hok o hK hk
  have hM := impl_MatchLoads_ev f (by omega) hK hk
  unfold matchF at hM
  rw [if_pos hok] at hM
  have hY := IsM.of_kuhn hk
  have e2 := impl_CountIn_ev (matchAt o f.length (nbOf f)) (by rw [matchAt_len]; omega)
  rw [hY.countB h8 hb8] at e2
  have e3 := impl_IsCover_ev f (numsOf ls false f.length) (numsOf bs true (nbOf f)) (by omega) (by omega) (by omega)
  unfold isCF at e3
  rw [if_pos ⟨hok, numsOf_rise _ _ _, numsOf_rise _ _ _⟩, (isCov_iff _ _ _).mpr (fun i j hi hj hf => reach_cover hR i j hi hj hf)] at e3
  have hc := konig_count hk hR
  have n1 := numsOf_len ls false f.length
  have n2 := numsOf_len bs true (nbOf f)
  refine Ev.bind hM (Ev.bind e2 (Ev.bind e3 (Ev.pos (by first | trivial | rfl) (Ev.pos (by first | trivial | rfl) (Ev.pos ?_ (Ev.pos (by first | trivial | rfl) (Ev.pos (by first | trivial | rfl) (covers_rest l1 b1))))))))
  rw [w64 (by omega) (by omega)]
  dsimp only
  omega
end Go.Proofs.Ytpagpbamdpllnaa.Pure
