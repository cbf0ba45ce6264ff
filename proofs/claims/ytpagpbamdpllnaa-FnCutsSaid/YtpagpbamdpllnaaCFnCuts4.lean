/- The most that flows is as much as the narrowest cut is wide (Ford and Fulkerson; Menger), for drawn nets: no condition but the statement's own. -/
import Derived.Test.YtpagpbamdpllnaaCFnCuts1
import Derived.Test.YtpagpbamdpllnaaCFnCuts0
import Derived.Test.YtpagpbamdpllnaaCFnCuts2
import Derived.Test.YtpagpbamdpllnaaCFnCuts3
set_option linter.unusedVariables false
set_option linter.unusedSimpArgs false
namespace Go.Proofs.Ytpagpbamdpllnaa.Pure
open Go.RowKit Go.Proofs.Ytpagpbamdpllnaa.Print Go.Proofs.YtpagpbamdpllnaaW.PrintWords Go.Proofs.YtpagpbamdpllnaaW.PrintLast Go.Proofs.YtpagpbamdpllnaaW.PrintMore

theorem sumN_bound (f : Nat → Int) (c : Int) (n : Nat) (h : ∀ i, i < n → -c ≤ f i ∧ f i ≤ c) : ∀ m, m ≤ n → -(c * (m : Int)) ≤ sumN f m ∧ sumN f m ≤ c * (m : Int)
  | 0, _ => by simp [sumN]
  | m + 1, hm => by
    obtain ⟨h1, h2⟩ := sumN_bound f c n h m (by omega)
    obtain ⟨h3, h4⟩ := h m (by omega)
    simp only [sumN]
    rw [show ((m + 1 : Nat) : Int) = (m : Int) + 1 by omega, Int.mul_add, Int.mul_one]
    constructor <;> omega
theorem impl_value_ev {n : Nat} {l : List (List Int)} (hl : Sq n l) (hn : n ≤ 100) (h : Nat) (hh : h < n) : Ev (fun k => impl_value.f k l (h : Int)) (valAt (ent l) n h) := by
  unfold impl_value.f
  rw [hl.len]
  have key := ev_up n (fun k i => impl_value.l0 k l (h : Int) (sumN (fun k => ent l h k - ent l k h) i) (n : Int) (i : Int)) (valAt (ent l) n h) (fun _ => True) trivial ?_ ?_
  · exact key
  · intro _
    refine Ev.succ ?_
    simp only [impl_value.l0]
    exact Ev.neg (by omega) (Ev.now _)
  · intro i hi _ hnx
    have hnx := hnx trivial
    have b1 := hl.lo h i hh hi
    have b2 := hl.lo i h hi hh
    have b3 := sumN_bound (fun k => ent l h k - ent l k h) 2000 n (fun k hk => by have := hl.lo h k hh hk; have := hl.lo k h hk hh; omega) i (by omega)
    refine Ev.succ ?_
    simp only [impl_value.l0]
    rw [rdL_getD, rdL_getD, hl.len, hl.row h hh, hl.row i hi]
    rw [show rd (l.getD h []) (i : Int) = ent l h i from rfl, show rd (l.getD i []) (h : Int) = ent l i h from rfl, w64 (x := ent l h i - ent l i h) (by omega) (by omega), w64 (x := sumN (fun k => ent l h k - ent l k h) i + (ent l h i - ent l i h)) (by omega) (by omega), w64 (x := (i : Int) + 1) (by omega) (by omega)]
    exact Ev.pos (by omega) (Ev.pos (by omega) (Ev.pos (by omega) (Ev.pos (by omega) (Ev.pos (by omega) (Ev.pos (by omega) (Ev.pos (by omega) hnx))))))

theorem spec_l13Value_ev {n : Nat} {l : List (List Int)} (hl : Sq n l) (hn : 0 < n ∧ n ≤ 100) : Ev (fun k => spec_l13Value.f k l) (valAt (ent l) n 0) := by
  unfold spec_l13Value.f
  rw [hl.len]
  have key := ev_up n (fun k i => spec_l13Value.l0 k l (sumN (fun k => ent l 0 k - ent l k 0) i) (n : Int) (i : Int)) (valAt (ent l) n 0) (fun _ => True) trivial ?_ ?_
  · exact key
  · intro _
    refine Ev.succ ?_
    simp only [spec_l13Value.l0]
    exact Ev.neg (by omega) (Ev.now _)
  · intro i hi _ hnx
    have hnx := hnx trivial
    have b1 := hl.lo 0 i hn.1 hi
    have b2 := hl.lo i 0 hi hn.1
    have b3 := sumN_bound (fun k => ent l 0 k - ent l k 0) 2000 n (fun k hk => by have := hl.lo 0 k hn.1 hk; have := hl.lo k 0 hk hn.1; omega) i (by omega)
    have r0 : rd_L2 l 0 = l.getD 0 [] := rdL_getD l 0
    refine Ev.succ ?_
    simp only [spec_l13Value.l0]
    rw [rdL_getD, r0, hl.len, hl.row 0 hn.1, hl.row i hi]
    rw [show rd (l.getD 0 []) (i : Int) = ent l 0 i from rfl, show rd (l.getD i []) 0 = ent l i 0 from rfl, w64 (x := ent l 0 i - ent l i 0) (by omega) (by omega), w64 (x := sumN (fun k => ent l 0 k - ent l k 0) i + (ent l 0 i - ent l i 0)) (by omega) (by omega), w64 (x := (i : Int) + 1) (by omega) (by omega)]
    exact Ev.pos (by omega) (Ev.pos (by omega) (Ev.pos (by omega) (Ev.pos (by omega) (Ev.pos (by omega) (Ev.pos (by omega) hnx)))))

theorem netOk_rows {l : List (List Int)} (h : netOk l = true) : (2 ≤ l.length ∧ l.length ≤ 8) ∧ Sq l.length l ∧ ∀ a b, a < l.length → b < l.length → 0 ≤ ent l a b ∧ ent l a b ≤ 50 := by
  unfold netOk at h
  simp only [Bool.and_eq_true] at h
  exact rowsOk_sq h.1
def mostFF (l : List (List Int)) : List (List Int) × Int × Bool := if netOk l = true then (mostF l l.length, valAt (ent (mostF l l.length)) l.length 0, true) else ([], 0, false)

theorem impl_MostFlow_ev (l : List (List Int)) (h : l.length ≤ 1048576) (hg : ∀ r ∈ l, r.length ≤ 1048576) : Ev (fun k => impl_MostFlow.f k l) (mostFF l) := by
  unfold impl_MostFlow.f mostFF
  refine Ev.bind (impl_GoodNet_ev l h hg) (Ev.ite (fun hk => ?_) (fun hk => by rw [if_neg hk]; exact Ev.now _))
  rw [if_pos hk]
  obtain ⟨h1, sq, bd⟩ := netOk_rows hk
  obtain ⟨g1, _, _⟩ := mostF_ok h1.1 bd
  exact Ev.bind (impl_mostFlow_ev ⟨h1.1, by omega⟩ sq bd) (Ev.bind (impl_value_ev (fl_sq sq g1) (by omega) 0 (by omega)) (Ev.now _))

def sideB (l : List (List Int)) (b : Nat) : Bool := decide (0 ≤ rd (cameF (roomN l (mostF l l.length)) l.length) (b : Int))
def sideTo (l : List (List Int)) : Nat → List Int
  | 0 => []
  | i + 1 => if sideB l i = true then sideTo l i ++ [(i : Int)] else sideTo l i
theorem sideTo_len (l : List (List Int)) : ∀ i, (sideTo l i).length ≤ i
  | 0 => Nat.le_refl _
  | i + 1 => by
    have := sideTo_len l i
    simp only [sideTo]
    split
    · simp; omega
    · omega
def cutFF (l : List (List Int)) : List Int × Bool := if netOk l = true then (sideTo l l.length, true) else ([], false)

theorem impl_CutOf_ev (l : List (List Int)) (h : l.length ≤ 1048576) (hg : ∀ r ∈ l, r.length ≤ 1048576) : Ev (fun k => impl_CutOf.f k l) (cutFF l) := by
  unfold impl_CutOf.f cutFF
  refine Ev.bind (impl_GoodNet_ev l h hg) (Ev.ite (fun hk => ?_) (fun hk => by rw [if_neg hk]; exact Ev.now _))
  rw [if_pos hk]
  obtain ⟨h1, sq, bd⟩ := netOk_rows hk
  obtain ⟨g1, _, _⟩ := mostF_ok h1.1 bd
  obtain ⟨rk, cm, _⟩ := cameF_ok (roomN l (mostF l l.length)) l.length (by omega)
  refine Ev.bind (impl_mostFlow_ev ⟨h1.1, by omega⟩ sq bd) (Ev.bind (impl_comeTo_ev sq (fl_sq sq g1) ⟨by omega, by omega⟩) ?_)
  rw [cm.len]
  have key := ev_up l.length (fun k i => impl_CutOf.l0 k (sideTo l i) (cameF (roomN l (mostF l l.length)) l.length) (l.length : Int) (i : Int)) (sideTo l l.length, true) (fun _ => True) trivial ?_ ?_
  · exact key
  · intro _
    refine Ev.succ ?_
    simp only [impl_CutOf.l0]
    exact Ev.neg (by omega) (Ev.now _)
  · intro i hi _ hnx
    have hnx := hnx trivial
    have hl := sideTo_len l i
    refine Ev.succ ?_
    simp only [impl_CutOf.l0]
    rw [w64 (x := (i : Int) + 1) (by omega) (by omega), cm.len]
    simp only [sideTo] at hnx
    refine Ev.pos (by omega) (Ev.pos (by omega) (Ev.pos (by omega) (Ev.ite (fun c => ?_) (fun c => ?_))))
    · rw [if_pos (show sideB l i = true from decide_eq_true c)] at hnx
      exact Ev.pos (by omega) hnx
    · rw [if_neg (show ¬ sideB l i = true by unfold sideB; rw [decide_eq_false c]; simp)] at hnx
      exact hnx

theorem spec_CutOf_ev (l : List (List Int)) (h : l.length ≤ 1048576) (hg : ∀ r ∈ l, r.length ≤ 1048576) : Ev (fun k => spec_CutOf.f k l) (cutFF l) := by
  unfold spec_CutOf.f cutFF
  refine Ev.bind (spec_GoodNet_ev l h hg) (Ev.ite (fun hk => ?_) (fun hk => by rw [if_neg hk]; exact Ev.now _))
  rw [if_pos hk]
  obtain ⟨h1, sq, bd⟩ := netOk_rows hk
  obtain ⟨g1, _, _⟩ := mostF_ok h1.1 bd
  obtain ⟨rk, cm, _⟩ := cameF_ok (roomN l (mostF l l.length)) l.length (by omega)
  refine Ev.bind (spec_l13Most_ev ⟨h1.1, by omega⟩ sq bd) (Ev.bind (spec_l13Come_ev sq (fl_sq sq g1) ⟨by omega, by omega⟩) ?_)
  rw [encS_len, cm.len]
  have key := ev_up l.length (fun k i => spec_CutOf.l0 k (sideTo l i) (encS (cameF (roomN l (mostF l l.length)) l.length)) (l.length : Int) (i : Int)) (sideTo l l.length, true) (fun _ => True) trivial ?_ ?_
  · exact key
  · intro _
    refine Ev.succ ?_
    simp only [spec_CutOf.l0]
    exact Ev.neg (by omega) (Ev.now _)
  · intro i hi _ hnx
    have hnx := hnx trivial
    have hl := sideTo_len l i
    refine Ev.succ ?_
    simp only [spec_CutOf.l0]
    rw [w64 (x := (i : Int) + 1) (by omega) (by omega), encS_len, cm.len, encS_rd _ i (by rw [cm.len]; exact hi)]
    simp only [sideTo] at hnx
    refine Ev.pos (by omega) (Ev.pos (by omega) (Ev.pos (by omega) ?_))
    by_cases c : 0 ≤ rd (cameF (roomN l (mostF l l.length)) l.length) (i : Int)
    · rw [if_pos (show sideB l i = true from decide_eq_true c)] at hnx
      refine Ev.neg ?_ (Ev.pos (by omega) hnx)
      split
      · omega
      · rw [if_neg (by omega)]; omega
    · rw [if_neg (show ¬ sideB l i = true by unfold sideB; rw [decide_eq_false c]; simp)] at hnx
      refine Ev.pos ?_ hnx
      have h0 : i ≠ 0 := fun e => by subst e; rw [show ((0 : Nat) : Int) = 0 from rfl, cm.zero] at c; omega
      rw [if_neg h0, if_pos (by omega)]

inductive Tk (F : Nat → Nat → Bool) (nb : Nat) : Nat → Nat → List Int → List Bool → Bool → List Int → List Bool → Prop where
  | done {l b : Nat} {o : List Int} {t : List Bool} : nb ≤ b → Tk F nb l b o t false o t
  | skip {l b : Nat} {o o' : List Int} {t t' : List Bool} {r : Bool} : b < nb → (F l b = false ∨ rdOf false t (b : Int) = true) → Tk F nb l (b + 1) o t r o' t' → Tk F nb l b o t r o' t'
  | free {l b : Nat} {o : List Int} {t : List Bool} : b < nb → F l b = true → rdOf false t (b : Int) = false → rd o (b : Int) < 0 → Tk F nb l b o t true (o.set b (l : Int)) (t.set b true)
  | push {l b m : Nat} {o o' : List Int} {t t' : List Bool} : b < nb → F l b = true → rdOf false t (b : Int) = false → rd o (b : Int) = (m : Int) → Tk F nb m 0 o (t.set b true) true o' t' → Tk F nb l b o t true (o'.set b (l : Int)) t'
  | fail {l b m : Nat} {o o' o'' : List Int} {t t' t'' : List Bool} {r : Bool} : b < nb → F l b = true → rdOf false t (b : Int) = false → rd o (b : Int) = (m : Int) → Tk F nb m 0 o (t.set b true) false o' t' → Tk F nb l (b + 1) o' t' r o'' t'' → Tk F nb l b o t r o'' t''
theorem rd_setn (o : List Int) (b x : Nat) (v : Int) (h : b < o.length) : rd (o.set b v) (x : Int) = if x = b then v else rd o (x : Int) := by
  simp only [rd, Int.toNat_natCast, List.getD_eq_getElem?_getD, List.getElem?_set]
  by_cases hx : b = x
  · subst hx; simp [h]
  · rw [if_neg hx, if_neg (fun e => hx e.symm)]
theorem rdOf_setn (t : List Bool) (b x : Nat) (v : Bool) (h : b < t.length) : rdOf false (t.set b v) (x : Int) = if x = b then v else rdOf false t (x : Int) := by
  simp only [rdOf, Int.toNat_natCast, List.getD_eq_getElem?_getD, List.getElem?_set]
  by_cases hx : b = x
  · subst hx; simp [h]
  · rw [if_neg hx, if_neg (fun e => hx e.symm)]
theorem Tk.len {F : Nat → Nat → Bool} {nb l b : Nat} {o o' : List Int} {t t' : List Bool} {r : Bool} (h : Tk F nb l b o t r o' t') : o'.length = o.length ∧ t'.length = t.length := by
  induction h with
  | done _ => exact ⟨rfl, rfl⟩
  | skip _ _ _ ih => exact ih
  | free _ _ _ _ => simp
  | push _ _ _ _ _ ih => simp at ih ⊢; exact ih
  | fail _ _ _ _ _ _ ih1 ih2 => simp at ih1; exact ⟨by omega, by omega⟩
theorem Tk.rng {F : Nat → Nat → Bool} {nb n l b : Nat} {o o' : List Int} {t t' : List Bool} {r : Bool} (h : Tk F nb l b o t r o' t') :
    o.length = nb → l < n → (∀ x : Nat, x < nb → -1 ≤ rd o (x : Int) ∧ rd o (x : Int) < n) → ∀ x : Nat, x < nb → -1 ≤ rd o' (x : Int) ∧ rd o' (x : Int) < n := by
  induction h with
  | done _ => intro _ _ h; exact h
  | skip _ _ _ ih => exact ih
  | free hb _ _ _ => intro ho hl h x hx; rw [rd_setn _ _ _ _ (by omega)]; split
                     · omega
                     · exact h x hx
  | push hb _ _ hm ht ih =>
    intro ho hl h x hx
    have h1 := h _ hb
    rw [rd_setn _ _ _ _ (by have := ht.len; omega)]; split
    · omega
    · exact ih ho (by omega) h x hx
  | fail hb _ _ hm ht _ ih1 ih2 =>
    intro ho hl h
    have h1 := h _ hb
    exact ih2 (by have := ht.len; omega) hl (ih1 ho (by omega) h)
theorem Tk.mono {F : Nat → Nat → Bool} {nb l b : Nat} {o o' : List Int} {t t' : List Bool} {r : Bool} (h : Tk F nb l b o t r o' t') :
    t.length = nb → ∀ x : Nat, rdOf false t (x : Int) = true → rdOf false t' (x : Int) = true := by
  induction h with
  | done _ => intro _ _ h; exact h
  | skip _ _ _ ih => exact ih
  | free hb _ _ _ => intro ht x hx; rw [rdOf_setn _ _ _ _ (by omega)]; split
                     · rfl
                     · exact hx
  | push hb _ _ _ _ ih => intro ht x hx; exact ih (by simpa using ht) x (by rw [rdOf_setn _ _ _ _ (by omega)]; split <;> simp_all)
  | fail hb _ _ _ hs _ ih1 ih2 => intro ht x hx; exact ih2 (by have := hs.len; simp at this; omega) x (ih1 (by simpa using ht) x (by rw [rdOf_setn _ _ _ _ (by omega)]; split <;> simp_all))
theorem Tk.kept {F : Nat → Nat → Bool} {nb l b : Nat} {o o' : List Int} {t t' : List Bool} {r : Bool} (h : Tk F nb l b o t r o' t') :
    o.length = nb → t.length = nb → ∀ x : Nat, rdOf false t (x : Int) = true → rd o' (x : Int) = rd o (x : Int) := by
  induction h with
  | done _ => intro _ _ _ _; rfl
  | skip _ _ _ ih => exact ih
  | free hb _ h0 _ =>
    intro ho ht x hx; rw [rd_setn _ _ _ _ (by omega)]; split
    · subst x; rw [h0] at hx; cases hx
    · rfl
  | push hb _ h0 _ hs ih =>
    intro ho ht x hx
    rw [rd_setn _ _ _ _ (by have := hs.len; omega)]; split
    · subst x; rw [h0] at hx; cases hx
    · exact ih ho (by simpa using ht) x (by rw [rdOf_setn _ _ _ _ (by omega)]; split <;> simp_all)
  | @fail l b m o o' o'' t t' t'' r hb _ h0 _ hs _ ih1 ih2 =>
    intro ho ht x hx
    have h1 : rdOf false (t.set b true) (x : Int) = true := by rw [rdOf_setn _ _ _ _ (by omega)]; split <;> simp_all
    have := hs.len; simp at this
    rw [ih2 (by omega) (by omega) x (hs.mono (by simpa using ht) x h1), ih1 ho (by simpa using ht) x h1]
theorem Tk.dead {F : Nat → Nat → Bool} {nb l b : Nat} {o o' : List Int} {t t' : List Bool} {r : Bool} (h : Tk F nb l b o t r o' t') (D : Nat → Prop) :
    o.length = nb → (∀ x, D x → x < nb ∧ ∃ m : Nat, rd o (x : Int) = (m : Int) ∧ ∀ y, y < nb → F m y = true → D y) →
    (∀ x, D x → rd o' (x : Int) = rd o (x : Int)) ∧ ((∀ x, b ≤ x → x < nb → F l x = true → D x) → r = false) := by
  induction h with
  | done _ => intro _ _; exact ⟨fun _ _ => rfl, fun _ => rfl⟩
  | skip hb hc hs ih => intro ho hD; exact ⟨(ih ho hD).1, fun hF => (ih ho hD).2 fun x h1 h2 h3 => hF x (by omega) h2 h3⟩
  | @free l b o t hb hf h0 hn =>
    intro ho hD
    have hno : ¬ D b := fun hd => by obtain ⟨_, m, hm, _⟩ := hD b hd; omega
    refine ⟨fun x hx => ?_, fun hF => absurd (hF b (Nat.le_refl _) hb hf) hno⟩
    rw [rd_setn _ _ _ _ (by omega), if_neg]
    intro e; subst e; exact hno hx
  | @push l b m o o' t t' hb hf h0 hm hs ih =>
    intro ho hD
    obtain ⟨i1, i2⟩ := ih ho hD
    have hno : ¬ D b := fun hd => by
      obtain ⟨_, m', hm', hy⟩ := hD b hd
      have e : m' = m := by omega
      subst e
      exact absurd (i2 fun x _ h2 h3 => hy x h2 h3) (by simp)
    refine ⟨fun x hx => ?_, fun hF => absurd (hF b (Nat.le_refl _) hb hf) hno⟩
    rw [rd_setn _ _ _ _ (by have := hs.len; omega), if_neg, i1 x hx]
    intro e; subst e; exact hno hx
  | @fail l b m o o' o'' t t' t'' r hb hf h0 hm hs hr ih1 ih2 =>
    intro ho hD
    obtain ⟨i1, _⟩ := ih1 ho hD
    obtain ⟨j1, j2⟩ := ih2 (by have := hs.len; omega) (fun x hx => by
      obtain ⟨h1, m', h2, h3⟩ := hD x hx
      exact ⟨h1, m', by rw [i1 x hx]; exact h2, h3⟩)
    exact ⟨fun x hx => by rw [j1 x hx, i1 x hx], fun hF => j2 fun x h1 h2 h3 => hF x (by omega) h2 h3⟩
theorem Tk.fails {F : Nat → Nat → Bool} {nb l b : Nat} {o o' : List Int} {t t' : List Bool} {r : Bool} (h : Tk F nb l b o t r o' t') :
    t.length = nb → r = false → o' = o ∧ (∀ x, b ≤ x → x < nb → F l x = true → rdOf false t' (x : Int) = true) ∧
      ∀ x : Nat, x < nb → rdOf false t' (x : Int) = true → rdOf false t (x : Int) = true ∨ ∃ m : Nat, rd o (x : Int) = (m : Int) ∧ ∀ y, y < nb → F m y = true → rdOf false t' (y : Int) = true := by
  induction h with
  | done hb => intro _ _; exact ⟨rfl, fun x h1 h2 _ => by omega, fun x _ h => .inl h⟩
  | @skip l b o o' t t' r hb hc hs ih =>
    intro ht hr
    obtain ⟨h1, h2, h3⟩ := ih ht hr
    refine ⟨h1, fun x a1 a2 a3 => ?_, h3⟩
    rcases Nat.lt_or_ge b x with h | h
    · exact h2 x h a2 a3
    · obtain rfl : x = b := by omega
      rcases hc with hc | hc
      · rw [hc] at a3; cases a3
      · exact hs.mono ht x hc
  | free _ _ _ _ => intro _ hr; cases hr
  | push _ _ _ _ _ _ => intro _ hr; cases hr
  | @fail l b m o o' o'' t t' t'' r hb hf h0 hm hs hq ih1 ih2 =>
    intro ht hr
    have hl := hs.len; simp at hl
    obtain ⟨e1, f1, g1⟩ := ih1 (by simpa using ht) rfl
    obtain ⟨e2, f2, g2⟩ := ih2 (by omega) hr
    have mo := hq.mono (by omega)
    have mb : rdOf false t' (b : Int) = true := hs.mono (by simpa using ht) b (by rw [rdOf_setn _ _ _ _ (by omega), if_pos rfl])
    subst e1
    refine ⟨e2, fun x a1 a2 a3 => ?_, fun x a1 a2 => ?_⟩
    · rcases Nat.lt_or_ge b x with h | h
      · exact f2 x h a2 a3
      · obtain rfl : x = b := by omega
        exact mo x mb
    · rcases g2 x a1 a2 with h | h
      · rcases g1 x a1 h with h' | ⟨m', h1, h2⟩
        · rw [rdOf_setn _ _ _ _ (by omega)] at h'
          split at h'
          · subst x; exact .inr ⟨m, hm, fun y hy hy2 => mo y (f1 y (Nat.zero_le _) hy hy2)⟩
          · exact .inl h'
        · exact .inr ⟨m', h1, fun y hy hy2 => mo y (h2 y hy hy2)⟩
      · exact .inr h
structure Owns (F : Nat → Nat → Bool) (U : Nat → Prop) (o : List Int) : Prop where
  inj : ∀ x y (m : Nat), U x → U y → rd o (x : Int) = (m : Int) → rd o (y : Int) = (m : Int) → x = y
  fit : ∀ x (m : Nat), U x → rd o (x : Int) = (m : Int) → F m x = true
theorem Tk.takes {F : Nat → Nat → Bool} {nb l b : Nat} {o o' : List Int} {t t' : List Bool} {r : Bool} (h : Tk F nb l b o t r o' t') :
    o.length = nb → t.length = nb → r = true → Owns F (fun x => x < nb ∧ rdOf false t (x : Int) = false) o → (∀ x : Nat, x < nb → rdOf false t (x : Int) = false → rd o (x : Int) ≠ (l : Int)) →
    Owns F (fun x => x < nb ∧ rdOf false t (x : Int) = false) o' ∧ ∀ m : Nat, (∃ x : Nat, (x < nb ∧ rdOf false t (x : Int) = false) ∧ rd o' (x : Int) = (m : Int)) ↔ (m = l ∨ ∃ x : Nat, (x < nb ∧ rdOf false t (x : Int) = false) ∧ rd o (x : Int) = (m : Int)) := by
  induction h with
  | done _ => intro _ _ hr; cases hr
  | skip _ _ _ ih => exact ih
  | @free l b o t hb hf h0 hn =>
    intro ho ht _ hO hl
    have e : ∀ x : Nat, rd (o.set b (l : Int)) (x : Int) = if x = b then (l : Int) else rd o (x : Int) := fun x => rd_setn _ _ _ _ (by omega)
    refine ⟨⟨fun x y m hx hy h1 h2 => ?_, fun x m hx h1 => ?_⟩, fun m => ⟨?_, ?_⟩⟩
    · rw [e] at h1 h2
      split at h1 <;> split at h2
      · omega
      · have := hl y hy.1 hy.2; omega
      · have := hl x hx.1 hx.2; omega
      · exact hO.inj x y m hx hy h1 h2
    · rw [e] at h1
      split at h1
      · obtain rfl : l = m := by omega
        subst x; exact hf
      · exact hO.fit x m hx h1
    · rintro ⟨x, hx, h1⟩
      rw [e] at h1
      split at h1
      · exact .inl (by omega)
      · exact .inr ⟨x, hx, h1⟩
    · rintro (h1 | ⟨x, hx, h1⟩)
      · exact ⟨b, ⟨hb, h0⟩, by rw [e, if_pos rfl, h1]⟩
      · refine ⟨x, hx, ?_⟩
        rw [e, if_neg]
        · exact h1
        · intro e2; subst e2; omega
  | @push l b m o o' t t' hb hf h0 hm hs ih =>
    intro ho ht _ hO hl
    have e1 : ∀ x : Nat, rdOf false (t.set b true) (x : Int) = if x = b then true else rdOf false t (x : Int) := fun x => rdOf_setn _ _ _ _ (by omega)
    have sub : ∀ x : Nat, (x < nb ∧ rdOf false (t.set b true) (x : Int) = false) ↔ (x < nb ∧ rdOf false t (x : Int) = false) ∧ x ≠ b := fun x => by
      rw [e1]; split
      · simp_all
      · simp_all
    have e : ∀ x : Nat, rd (o'.set b (l : Int)) (x : Int) = if x = b then (l : Int) else rd o' (x : Int) := fun x => rd_setn _ _ _ _ (by have := hs.len; omega)
    obtain ⟨hO', hL⟩ := ih ho (by simpa using ht) rfl ⟨fun x y k hx hy => hO.inj x y k ((sub x).mp hx).1 ((sub y).mp hy).1, fun x k hx => hO.fit x k ((sub x).mp hx).1⟩
      (fun x h1 h2 h3 => ((sub x).mp ⟨h1, h2⟩).2 (hO.inj x b m ((sub x).mp ⟨h1, h2⟩).1 ⟨hb, h0⟩ h3 hm))
    have hlm : l ≠ m := fun e2 => hl b hb h0 (by rw [hm, e2])
    have hlo : ∀ x : Nat, x < nb → rdOf false t (x : Int) = false → x ≠ b → rd o' (x : Int) ≠ (l : Int) := fun x h1 h2 h3 h4 => by
      rcases (hL l).mp ⟨x, (sub x).mpr ⟨⟨h1, h2⟩, h3⟩, h4⟩ with h5 | ⟨y, h5, h6⟩
      · exact hlm h5
      · exact hl y ((sub y).mp h5).1.1 ((sub y).mp h5).1.2 h6
    refine ⟨⟨fun x y k hx hy h1 h2 => ?_, fun x k hx h1 => ?_⟩, fun k => ⟨?_, ?_⟩⟩
    · rw [e] at h1 h2
      split at h1 <;> split at h2
      · omega
      · rename_i q1 q2; exact absurd (show rd o' (y : Int) = (l : Int) by omega) (hlo y hy.1 hy.2 q2)
      · rename_i q1 q2; exact absurd (show rd o' (x : Int) = (l : Int) by omega) (hlo x hx.1 hx.2 q1)
      · rename_i q1 q2; exact hO'.inj x y k ((sub x).mpr ⟨hx, q1⟩) ((sub y).mpr ⟨hy, q2⟩) h1 h2
    · rw [e] at h1
      split at h1
      · obtain rfl : l = k := by omega
        subst x; exact hf
      · rename_i q; exact hO'.fit x k ((sub x).mpr ⟨hx, q⟩) h1
    · rintro ⟨x, hx, h1⟩
      rw [e] at h1
      split at h1
      · exact .inl (by omega)
      · rename_i q
        rcases (hL k).mp ⟨x, (sub x).mpr ⟨hx, q⟩, h1⟩ with h2 | ⟨y, h2, h3⟩
        · exact .inr ⟨b, ⟨hb, h0⟩, by rw [hm, h2]⟩
        · exact .inr ⟨y, ((sub y).mp h2).1, h3⟩
    · rintro (h1 | ⟨x, hx, h1⟩)
      · exact ⟨b, ⟨hb, h0⟩, by rw [e, if_pos rfl, h1]⟩
      · have : k = m ∨ ∃ y : Nat, (y < nb ∧ rdOf false (t.set b true) (y : Int) = false) ∧ rd o (y : Int) = (k : Int) := by
          by_cases q : x = b
          · subst q; exact .inl (by omega)
          · exact .inr ⟨x, (sub x).mpr ⟨hx, q⟩, h1⟩
        obtain ⟨y, hy, hy2⟩ := (hL k).mpr this
        exact ⟨y, ((sub y).mp hy).1, by rw [e, if_neg ((sub y).mp hy).2]; exact hy2⟩
  | @fail l b m o o' o'' t t' t'' r hb hf h0 hm hs hq ih1 ih2 =>
    intro ho ht hr hO hl
    have ln := hs.len; simp at ln
    obtain ⟨rfl, _, _⟩ := hs.fails (by simpa using ht) rfl
    have mo : ∀ x : Nat, rdOf false t' (x : Int) = false → rdOf false t (x : Int) = false := fun x hx => by
      cases hh : rdOf false t (x : Int) with
      | false => rfl
      | true => rw [hs.mono (by simpa using ht) x (by rw [rdOf_setn _ _ _ _ (by omega)]; split <;> simp_all)] at hx; cases hx
    obtain ⟨hO', hL⟩ := ih2 ho (by omega) hr ⟨fun x y k hx hy => hO.inj x y k ⟨hx.1, mo x hx.2⟩ ⟨hy.1, mo y hy.2⟩, fun x k hx => hO.fit x k ⟨hx.1, mo x hx.2⟩⟩ (fun x h1 h2 => hl x h1 (mo x h2))
    have kp := hq.kept ho (by omega)
    have two : ∀ x : Nat, rdOf false t' (x : Int) = false ∨ rd o'' (x : Int) = rd o' (x : Int) := fun x => by
      cases hh : rdOf false t' (x : Int) with
      | false => exact .inl rfl
      | true => exact .inr (kp x hh)
    have cross : ∀ (x y k : Nat), x < nb → rdOf false t' (x : Int) = false → y < nb → rdOf false t (y : Int) = false → rdOf false t' (y : Int) = true → rd o'' (x : Int) = (k : Int) → rd o'' (y : Int) = (k : Int) → False := fun x y k h1 h2 h3 h4 h5 h6 h7 => by
      rw [kp y h5] at h7
      rcases (hL k).mp ⟨x, ⟨h1, h2⟩, h6⟩ with h8 | ⟨z, h8, h9⟩
      · exact hl y h3 h4 (by rw [h7, h8])
      · have := hO.inj z y k ⟨h8.1, mo z h8.2⟩ ⟨h3, h4⟩ h9 h7
        subst this; rw [h5] at h8; cases h8.2
    refine ⟨⟨fun x y k hx hy h1 h2 => ?_, fun x k hx h1 => ?_⟩, fun k => ⟨?_, ?_⟩⟩
    · cases hx2 : rdOf false t' (x : Int) <;> cases hy2 : rdOf false t' (y : Int)
      · exact hO'.inj x y k ⟨hx.1, hx2⟩ ⟨hy.1, hy2⟩ h1 h2
      · exact (cross x y k hx.1 hx2 hy.1 hy.2 hy2 h1 h2).elim
      · exact (cross y x k hy.1 hy2 hx.1 hx.2 hx2 h2 h1).elim
      · rw [kp x hx2] at h1; rw [kp y hy2] at h2; exact hO.inj x y k hx hy h1 h2
    · cases hx2 : rdOf false t' (x : Int)
      · exact hO'.fit x k ⟨hx.1, hx2⟩ h1
      · rw [kp x hx2] at h1; exact hO.fit x k hx h1
    · rintro ⟨x, hx, h1⟩
      cases hx2 : rdOf false t' (x : Int)
      · rcases (hL k).mp ⟨x, ⟨hx.1, hx2⟩, h1⟩ with h2 | ⟨y, h2, h3⟩
        · exact .inl h2
        · exact .inr ⟨y, ⟨h2.1, mo y h2.2⟩, h3⟩
      · rw [kp x hx2] at h1; exact .inr ⟨x, hx, h1⟩
    · rintro (h1 | ⟨x, hx, h1⟩)
      · obtain ⟨y, hy, hy2⟩ := (hL k).mpr (.inl h1)
        exact ⟨y, ⟨hy.1, mo y hy.2⟩, hy2⟩
      · cases hx2 : rdOf false t' (x : Int)
        · obtain ⟨y, hy, hy2⟩ := (hL k).mpr (.inr ⟨x, ⟨hx.1, hx2⟩, h1⟩)
          exact ⟨y, ⟨hy.1, mo y hy.2⟩, hy2⟩
        · exact ⟨x, hx, by rw [kp x hx2]; exact h1⟩
def cnt (p : Nat → Bool) : Nat → Nat
  | 0 => 0
  | n + 1 => cnt p n + (p n).toNat
inductive Ks (F : Nat → Nat → Bool) (nb n : Nat) : Nat → List Int → List Int → Prop where
  | done {j : Nat} {o : List Int} : n ≤ j → Ks F nb n j o o
  | step {j : Nat} {o o' o'' : List Int} {t' : List Bool} {r : Bool} : j < n → Tk F nb j 0 o (List.replicate nb false) r o' t' → Ks F nb n (j + 1) o' o'' → Ks F nb n j o o''
structure Kuhn (F : Nat → Nat → Bool) (nb n : Nat) (o : List Int) : Prop where
  len : o.length = nb
  rng : ∀ x : Nat, x < nb → -1 ≤ rd o (x : Int) ∧ rd o (x : Int) < n
  inj : ∀ (x y m : Nat), x < nb → y < nb → rd o (x : Int) = (m : Int) → rd o (y : Int) = (m : Int) → x = y
  fit : ∀ (x m : Nat), x < nb → rd o (x : Int) = (m : Int) → F m x = true
  dead : ∃ D : Nat → Prop, (∀ x, D x → x < nb ∧ ∃ m : Nat, rd o (x : Int) = (m : Int) ∧ ∀ y, y < nb → F m y = true → D y) ∧ ∀ l, l < n → (∀ x : Nat, x < nb → rd o (x : Int) ≠ (l : Int)) → ∀ y, y < nb → F l y = true → D y
theorem rdOf_rep (nb x : Nat) : rdOf false (List.replicate nb false) (x : Int) = false := by
  simp only [rdOf, Int.toNat_natCast, List.getD_eq_getElem?_getD, List.getElem?_replicate]; split <;> rfl
theorem rd_rep (nb x : Nat) (v : Int) (h : x < nb) : rd (List.replicate nb v) (x : Int) = v := by
  simp [rd, List.getD_eq_getElem?_getD, List.getElem?_replicate, h]
theorem Kuhn.next {F : Nat → Nat → Bool} {nb j : Nat} {o o' : List Int} {t' : List Bool} {r : Bool} (h : Kuhn F nb j o) (ht : Tk F nb j 0 o (List.replicate nb false) r o' t') : Kuhn F nb (j + 1) o' := by
  obtain ⟨len, rng, inj, fit, D, hD, hU⟩ := h
  have ln := ht.len
  have rng' := ht.rng (n := j + 1) len (by omega) (fun x hx => by have := rng x hx; omega)
  have all : ∀ x : Nat, (x < nb ∧ rdOf false (List.replicate nb false) (x : Int) = false) ↔ x < nb := fun x => by rw [rdOf_rep]; simp
  obtain ⟨d1, d2⟩ := ht.dead D len hD
  cases r with
  | true =>
    obtain ⟨hO, hL⟩ := ht.takes len (by simp) rfl ⟨fun x y m hx hy => inj x y m hx.1 hy.1, fun x m hx => fit x m hx.1⟩ (fun x h1 _ h2 => by have := rng x h1; omega)
    refine ⟨by omega, rng', fun x y m hx hy => hO.inj x y m ((all x).mpr hx) ((all y).mpr hy), fun x m hx => hO.fit x m ((all x).mpr hx), D, fun x hx => ?_, fun l hl hu => ?_⟩
    · obtain ⟨h1, m, h2, h3⟩ := hD x hx
      exact ⟨h1, m, by rw [d1 x hx]; exact h2, h3⟩
    · refine hU l ?_ fun x hx hx2 => ?_
      · rcases Nat.lt_or_ge l j with h | h
        · exact h
        · obtain rfl : l = j := by omega
          obtain ⟨x, hx, hx2⟩ := (hL l).mpr (.inl rfl)
          exact absurd hx2 (hu x hx.1)
      · obtain ⟨y, hy, hy2⟩ := (hL l).mpr (.inr ⟨x, (all x).mpr hx, hx2⟩)
        exact hu y hy.1 hy2
  | false =>
    obtain ⟨rfl, f1, f2⟩ := ht.fails (by simp) rfl
    refine ⟨len, rng', inj, fit, fun x => x < nb ∧ (D x ∨ rdOf false t' (x : Int) = true), fun x hx => ?_, fun l hl hu y hy hF => ?_⟩
    · obtain ⟨h0, hx | hx⟩ := hx
      · obtain ⟨h1, m, h2, h3⟩ := hD x hx
        exact ⟨h1, m, h2, fun y hy hF => ⟨hy, .inl (h3 y hy hF)⟩⟩
      · rcases f2 x h0 hx with h | ⟨m, h1, h2⟩
        · rw [rdOf_rep] at h; cases h
        · exact ⟨h0, m, h1, fun y hy hF => ⟨hy, .inr (h2 y hy hF)⟩⟩
    · rcases Nat.lt_or_ge l j with h | h
      · exact ⟨hy, .inl (hU l h hu y hy hF)⟩
      · obtain rfl : l = j := by omega
        exact ⟨hy, .inr (f1 y (Nat.zero_le _) hy hF)⟩
theorem Kuhn.start (F : Nat → Nat → Bool) (nb : Nat) : Kuhn F nb 0 (List.replicate nb (-1)) := by
  have e : ∀ x : Nat, x < nb → rd (List.replicate nb (-1)) (x : Int) = -1 := fun x hx => rd_rep nb x (-1) hx
  refine ⟨by simp, fun x hx => by rw [e x hx]; omega, fun x y m hx _ h => by rw [e x hx] at h; omega, fun x m hx h => by rw [e x hx] at h; omega, fun _ => False, fun _ h => h.elim, fun l hl => by omega⟩

theorem rep_one (x : Int) (n : Nat) (h : n ≤ 1048576) : slices_Repeat_int_int.f [x] (n : Int) = some (List.replicate n x) := by
  simp only [slices_Repeat_int_int.f]; rw [if_pos (by omega), toNat_nat]

def nbOf (fits : List (List Bool)) : Nat := (fits.getD 0 []).length
def rowOk (fits : List (List Bool)) (r : List Bool) : Bool := decide (r.length = nbOf fits) && decide (r.length ≤ 8)
def fitOk (fits : List (List Bool)) : Bool := decide (fits.length ≤ 8) && fits.all (rowOk fits)
def fitF (fits : List (List Bool)) (l b : Nat) : Bool := rdOf false (fits.getD l []) (b : Int)
def matchAt (o : List Int) (n : Nat) : Nat → List Int
  | 0 => List.replicate n (-1)
  | i + 1 => if rd o (i : Int) ≥ 0 then (matchAt o n i).set (rd o (i : Int)).toNat (i : Int) else matchAt o n i
def matchF (fits : List (List Bool)) (o : List Int) : List Int × Bool := if fitOk fits = true then (matchAt o fits.length (nbOf fits), true) else ([], false)

inductive RL (F : Nat → Nat → Bool) (nb n : Nat) (o : List Int) : Nat → Prop where
  | start {l : Nat} : l < n → (∀ x : Nat, x < nb → rd o (x : Int) ≠ (l : Int)) → RL F nb n o l
  | next {l y m : Nat} : RL F nb n o l → y < nb → F l y = true → rd o (y : Int) = (m : Int) → RL F nb n o m
def RB (F : Nat → Nat → Bool) (nb n : Nat) (o : List Int) (y : Nat) : Prop := y < nb ∧ ∃ l, RL F nb n o l ∧ F l y = true
theorem RL.lt {F : Nat → Nat → Bool} {nb n : Nat} {o : List Int} (hr : ∀ x : Nat, x < nb → -1 ≤ rd o (x : Int) ∧ rd o (x : Int) < n) {l : Nat} (h : RL F nb n o l) : l < n := by
  cases h with
  | start h _ => exact h
  | next _ hy _ hm => have := hr _ hy; omega
structure IsReach (F : Nat → Nat → Bool) (nb n : Nat) (o : List Int) (ls bs : List Bool) : Prop where
  ll : ls.length = n
  lb : bs.length = nb
  rl : ∀ l : Nat, l < n → (rdOf false ls (l : Int) = true ↔ RL F nb n o l)
  rb : ∀ y : Nat, y < nb → (rdOf false bs (y : Int) = true ↔ RB F nb n o y)
structure Sound (F : Nat → Nat → Bool) (nb n : Nat) (o : List Int) (ls bs : List Bool) : Prop where
  ll : ls.length = n
  lb : bs.length = nb
  sl : ∀ l : Nat, l < n → rdOf false ls (l : Int) = true → RL F nb n o l
  sb : ∀ y : Nat, y < nb → rdOf false bs (y : Int) = true → RB F nb n o y
  st : ∀ l : Nat, l < n → (∀ x : Nat, x < nb → rd o (x : Int) ≠ (l : Int)) → rdOf false ls (l : Int) = true
theorem Sound.closed {F : Nat → Nat → Bool} {nb n : Nat} {o : List Int} {ls bs : List Bool} (hr : ∀ x : Nat, x < nb → -1 ≤ rd o (x : Int) ∧ rd o (x : Int) < n) (h : Sound F nb n o ls bs) (h1 : ∀ l : Nat, l < n → rdOf false ls (l : Int) = true → ∀ y : Nat, y < nb → F l y = true → rdOf false bs (y : Int) = true)
    (h2 : ∀ y : Nat, y < nb → rdOf false bs (y : Int) = true → ∀ m : Nat, rd o (y : Int) = (m : Int) → rdOf false ls (m : Int) = true) : IsReach F nb n o ls bs := by
  have all : ∀ l, RL F nb n o l → rdOf false ls (l : Int) = true := by
    intro l hl
    induction hl with
    | start hl hu => exact h.st _ hl hu
    | next hp hy hf hm ih => exact h2 _ hy (h1 _ (RL.lt hr hp) ih _ hy hf) _ hm
  exact ⟨h.ll, h.lb, fun l hl => ⟨h.sl l hl, all l⟩, fun y hy => ⟨h.sb y hy, fun ⟨_, l, hl, hf⟩ => h1 l (RL.lt hr hl) (all l hl) y hy hf⟩⟩
def numsOf (l : List Bool) (so : Bool) : Nat → List Int
  | 0 => []
  | i + 1 => if rdOf false l (i : Int) = so then numsOf l so i ++ [(i : Int)] else numsOf l so i

theorem RB.owned {F : Nat → Nat → Bool} {nb n : Nat} {o : List Int} (hk : Kuhn F nb n o) {y : Nat} (h : RB F nb n o y) : ∃ m : Nat, rd o (y : Int) = (m : Int) := by
  obtain ⟨D, hD, hU⟩ := hk.dead
  have key : ∀ l, RL F nb n o l → ∀ y : Nat, y < nb → F l y = true → D y := by
    intro l hl
    induction hl with
    | start hl hu => exact hU _ hl hu
    | @next l y m hp hy hf hm ih =>
      obtain ⟨_, m', h1, h2⟩ := hD _ (ih _ hy hf)
      obtain rfl : m' = m := by omega
      exact h2
  obtain ⟨hy, l, hl, hf⟩ := h
  obtain ⟨_, m, hm, _⟩ := hD y (key l hl y hy hf)
  exact ⟨m, hm⟩
structure IsM (F : Nat → Nat → Bool) (nb n : Nat) (x : List Int) : Prop where
  len : x.length = n
  rng : ∀ l : Nat, l < n → -1 ≤ rd x (l : Int) ∧ rd x (l : Int) < nb
  fit : ∀ (l b : Nat), l < n → rd x (l : Int) = (b : Int) → F l b = true
  inj : ∀ (l l' b : Nat), l < n → l' < n → rd x (l : Int) = (b : Int) → rd x (l' : Int) = (b : Int) → l = l'
theorem slices_Contains_ev (l : List Int) (a : Int) (hl : l.length ≤ 1048576) : Ev (fun k => slices_Contains_int_int.f k l a) (decide (a ∈ l)) := by
  unfold slices_Contains_int_int.f slices_Index_int_int.f
  have gen : ∀ (d i : Nat), i + d = l.length → ∃ j : Int, Ev (fun k => slices_Index_int_int.l0 k l a (l.length : Int) (i : Int)) j ∧ (decide (j ≥ 0) = decide (a ∈ l.drop i)) := by
    intro d
    induction d with
    | zero =>
      intro i hi
      refine ⟨-1, ?_, by rw [List.drop_of_length_le (by omega)]; simp⟩
      refine Ev.succ ?_; simp only [slices_Index_int_int.l0]; exact Ev.neg (by omega) (Ev.now _)
    | succ d ih =>
      intro i hi
      have hi' : i < l.length := by omega
      by_cases he : a = l[i]
      · refine ⟨i, ?_, ?_⟩
        · refine Ev.succ ?_
          simp only [slices_Index_int_int.l0]
          rw [rd_nat l i hi']
          exact Ev.pos (by omega) (Ev.pos (by omega) (Ev.pos (by omega) (Ev.pos he (Ev.now _))))
        · rw [List.drop_eq_getElem_cons hi', ← he]; simp
      · obtain ⟨j, h1, h2⟩ := ih (i + 1) (by omega)
        refine ⟨j, ?_, ?_⟩
        · refine Ev.succ ?_
          simp only [slices_Index_int_int.l0]
          rw [rd_nat l i hi', w64n hi' (by omega)]
          exact Ev.pos (by omega) (Ev.pos (by omega) (Ev.pos (by omega) (Ev.neg he h1)))
        · rw [h2, decide_eq_decide, List.drop_eq_getElem_cons hi', List.mem_cons]
          exact ⟨.inr, fun h => h.elim (fun h => absurd h he) id⟩
  obtain ⟨j, h1, h2⟩ := gen l.length 0 (by omega)
  refine Ev.to (Ev.bind h1 (Ev.now _)) ?_
  rw [h2, List.drop_zero]

def okAt (fits : List (List Bool)) (m : List Int) (i : Nat) : Bool := decide (rd m (i : Int) = -1) || ((decide (0 ≤ rd m (i : Int)) && decide (rd m (i : Int) < nbOf fits)) && (rdOf false (fits.getD i []) (rd m (i : Int)) && !decide (rd m (i : Int) ∈ m.take i)))
def isMat (fits : List (List Bool)) (m : List Int) : Bool := decide (m.length = fits.length) && allTo (okAt fits m) m.length
def isMF (fits : List (List Bool)) (m : List Int) : Bool × Bool := if fitOk fits = true then (isMat fits m, true) else (false, false)
def countB (m : List Int) : Bool := decide (m.length ≤ 8) && allIn m (-1) 7
def countF (m : List Int) : Int × Bool := if countB m = true then ((cnt (fun l => decide (rd m (l : Int) ≥ 0)) m.length : Nat), true) else (0, false)

theorem IsM.countB {F : Nat → Nat → Bool} {nb n : Nat} {x : List Int} (h : IsM F nb n x) (hn : n ≤ 8) (hb : nb ≤ 8) : countF x = (((cnt (fun l => decide (rd x (l : Int) ≥ 0)) n : Nat) : Int), true) := by
  have hl := h.len
  have hc : Pure.countB x = true := by
    unfold Pure.countB
    rw [Bool.and_eq_true, decide_eq_true_eq, allIn_iff]
    refine ⟨by omega, fun z hz => ?_⟩
    obtain ⟨i, hi, rfl⟩ := List.getElem_of_mem hz
    have := h.rng i (by omega)
    rw [rd_nat x i hi] at this
    omega
  unfold countF
  rw [if_pos hc, hl]


def riseAt (l : List Int) (n : Int) (i : Nat) : Bool := (decide (0 ≤ rd l (i : Int)) && decide (rd l (i : Int) < n)) && (decide (i = 0) || decide (rd l ((i - 1 : Nat) : Int) < rd l (i : Int)))
def rising (l : List Int) (n : Int) : Bool := allTo (riseAt l n) l.length
theorem allIn_rd (l : List Int) (lo hi : Int) : allIn l lo hi = true ↔ ∀ i : Nat, i < l.length → lo ≤ rd l (i : Int) ∧ rd l (i : Int) ≤ hi := by
  rw [allIn_iff]
  constructor
  · intro h i hi; rw [rd_nat l i hi]; exact h _ (List.getElem_mem hi)
  · intro h z hz
    obtain ⟨i, hi, rfl⟩ := List.getElem_of_mem hz
    have := h i hi
    rwa [rd_nat l i hi] at this

theorem impl_isRising_ev (l : List Int) (n : Int) (hl : l.length ≤ 1048576) (hn : 0 ≤ n ∧ n ≤ 1000) : Ev (fun k => impl_isRising.f k l n) (rising l n) := by
  unfold impl_isRising.f
  have key := ev_all l.length (fun i => decide (i = 0) || decide (rd l ((i - 1 : Nat) : Int) < rd l (i : Int))) (fun k i => impl_isRising.l0 k l n l (l.length : Int) (i : Int)) (allIn l 0 (n - 1)) false
    (fun r i hi hp hn => ?_) (fun i hi hp => ?_) (fun _ => ?_) (allTo (fun i => decide (i = 0) || decide (rd l ((i - 1 : Nat) : Int) < rd l (i : Int))) l.length) (allTo_iff _ _)
  · refine Ev.to key ?_
    rw [Bool.eq_iff_iff]
    unfold rising
    rw [allTo_iff (riseAt l n)]
    constructor
    · intro h
      split at h
      · rename_i h1
        rw [allTo_iff] at h1
        rw [allIn_rd] at h
        intro i hi
        have a1 := h1 i hi
        have a2 := h i hi
        unfold riseAt
        rw [a1, decide_eq_true a2.1, decide_eq_true (show rd l (i : Int) < n by omega)]; rfl
      · cases h
    · intro h
      have h1 : allTo (fun i => decide (i = 0) || decide (rd l ((i - 1 : Nat) : Int) < rd l (i : Int))) l.length = true := (allTo_iff _ _).mpr fun i hi => by
        have := h i hi
        unfold riseAt at this
        rw [Bool.and_eq_true] at this
        exact this.2
      rw [if_pos h1, allIn_rd]
      intro i hi
      have := h i hi
      unfold riseAt at this
      rw [Bool.and_eq_true, Bool.and_eq_true, decide_eq_true_eq, decide_eq_true_eq] at this
      omega
  · refine Ev.succ ?_
    simp only [impl_isRising.l0]
    rw [w64n hi (by omega)]
    refine Ev.pos (by omega) (Ev.pos (by omega) (Ev.pos (by omega) (Ev.ite (fun h0 => ?_) (fun _ => hn))))
    rw [w64 (by omega) (by omega), show (i : Int) - 1 = ((i - 1 : Nat) : Int) by omega]
    refine Ev.pos (by omega) (Ev.pos (by omega) (Ev.neg ?_ hn))
    rw [Bool.or_eq_true, decide_eq_true_eq, decide_eq_true_eq] at hp
    omega
  · refine Ev.succ ?_
    simp only [impl_isRising.l0]
    rw [Bool.or_eq_false_iff, decide_eq_false_iff_not, decide_eq_false_iff_not] at hp
    refine Ev.pos (by omega) (Ev.pos (by omega) (Ev.pos (by omega) (Ev.pos (by omega) ?_)))
    rw [w64 (by omega) (by omega), show (i : Int) - 1 = ((i - 1 : Nat) : Int) by omega]
    exact Ev.pos (by omega) (Ev.pos (by omega) (Ev.pos (by omega) (Ev.now _)))
  · refine Ev.succ ?_
    simp only [impl_isRising.l0]
    rw [w64 (x := n - 1) (by omega) (by omega)]
    exact Ev.neg (by omega) (Ev.bind (impl_allWithin_ev l 0 (n - 1) (by omega)) (Ev.now _))

theorem spec_l8Rising_ev (l : List Int) (n : Int) (hl : l.length ≤ 1048576) : Ev (fun k => spec_l8Rising.f k l n) (rising l n) := by
  unfold spec_l8Rising.f
  have key := ev_all l.length (riseAt l n) (fun k i => spec_l8Rising.l0 k l n l (l.length : Int) (i : Int)) true false
    (fun r i hi hp hn => ?_) (fun i hi hp => ?_) (fun _ => ?_) (allTo (riseAt l n) l.length) (allTo_iff _ _)
  · refine Ev.to key ?_
    unfold rising; cases allTo (riseAt l n) l.length <;> rfl
  · unfold riseAt at hp
    rw [Bool.and_eq_true, Bool.and_eq_true, decide_eq_true_eq, decide_eq_true_eq, Bool.or_eq_true, decide_eq_true_eq, decide_eq_true_eq] at hp
    refine Ev.succ ?_
    simp only [spec_l8Rising.l0]
    rw [w64n hi (by omega)]
    refine Ev.pos (by omega) (Ev.pos (by omega) (Ev.pos (by omega) (Ev.neg (by omega) (Ev.neg (by omega) (Ev.ite (fun h0 => ?_) (fun _ => hn))))))
    rw [w64 (by omega) (by omega), show (i : Int) - 1 = ((i - 1 : Nat) : Int) by omega]
    exact Ev.pos (by omega) (Ev.pos (by omega) (Ev.neg (by omega) hn))
  · refine Ev.succ ?_
    simp only [spec_l8Rising.l0]
    refine Ev.pos (by omega) (Ev.pos (by omega) (Ev.pos (by omega) (Ev.ite (fun _ => Ev.now _) (fun h1 => Ev.ite (fun _ => Ev.now _) (fun h2 => ?_)))))
    unfold riseAt at hp
    rw [decide_eq_true (show 0 ≤ rd l (i : Int) by omega), decide_eq_true (show rd l (i : Int) < n by omega), Bool.and_self, Bool.true_and, Bool.or_eq_false_iff, decide_eq_false_iff_not, decide_eq_false_iff_not] at hp
    refine Ev.pos (by omega) ?_
    rw [w64 (by omega) (by omega), show (i : Int) - 1 = ((i - 1 : Nat) : Int) by omega]
    exact Ev.pos (by omega) (Ev.pos (by omega) (Ev.pos (by omega) (Ev.now _)))
  · refine Ev.succ ?_; simp only [spec_l8Rising.l0]; exact Ev.neg (by omega) (Ev.now _)

def coverAt (fits : List (List Bool)) (a b : List Int) (i j : Nat) : Bool := !fitF fits i j || (decide ((i : Int) ∈ a) || decide ((j : Int) ∈ b))
def isCov (fits : List (List Bool)) (a b : List Int) : Bool := allTo (fun i => allTo (coverAt fits a b i) (nbOf fits)) fits.length
def isCF (fits : List (List Bool)) (a b : List Int) : Bool × Bool := if fitOk fits = true ∧ rising a fits.length = true ∧ rising b (nbOf fits) = true then (isCov fits a b, true) else (false, false)

def cutOk (l : List (List Int)) (side : List Int) : Bool := netOk l && (rising side (l.length : Int) && (decide ((0 : Int) ∈ side) && !decide (((l.length : Int) - 1) ∈ side)))
theorem rise_at {side : List Int} {n : Int} (h : rising side n = true) (i : Nat) (hi : i < side.length) : 0 ≤ rd side (i : Int) ∧ rd side (i : Int) < n ∧ (0 < i → rd side ((i - 1 : Nat) : Int) < rd side (i : Int)) := by
  have h1 := (allTo_iff _ _).mp h i hi
  unfold riseAt at h1
  simp only [Bool.and_eq_true, Bool.or_eq_true, decide_eq_true_eq] at h1
  exact ⟨h1.1.1, h1.1.2, fun hp => by rcases h1.2 with h2 | h2; omega; exact h2⟩
theorem rise_lt {side : List Int} {n : Int} (h : rising side n = true) : ∀ (d i : Nat), i + d < side.length → rd side (i : Int) + (d : Int) ≤ rd side ((i + d : Nat) : Int)
  | 0, i, _ => by simp
  | d + 1, i, hi => by
    have h1 := rise_lt h d i (by omega)
    have h2 := (rise_at h (i + (d + 1)) hi).2.2 (by omega)
    rw [show i + (d + 1) - 1 = i + d by omega] at h2
    omega
theorem mem_rd (side : List Int) (x : Int) : x ∈ side ↔ ∃ i : Nat, i < side.length ∧ rd side (i : Int) = x := by
  rw [List.mem_iff_getElem]
  constructor
  · rintro ⟨i, hi, rfl⟩; exact ⟨i, hi, rd_nat _ _ hi⟩
  · rintro ⟨i, hi, rfl⟩; exact ⟨i, hi, (rd_nat _ _ hi).symm⟩
theorem cutOk_iff {l : List (List Int)} {side : List Int} (hn : 2 ≤ l.length) : (rising side (l.length : Int) = true ∧ (0 : Int) ∈ side ∧ ¬ ((l.length : Int) - 1) ∈ side) ↔ (rising side ((l.length : Int) - 1) = true ∧ side.length ≠ 0 ∧ rd side 0 = 0) := by
  constructor
  · rintro ⟨h1, h2, h3⟩
    obtain ⟨i, hi, e⟩ := (mem_rd _ _).mp h2
    refine ⟨?_, by omega, ?_⟩
    · refine (allTo_iff _ _).mpr fun j hj => ?_
      obtain ⟨a1, a2, a3⟩ := rise_at h1 j hj
      unfold riseAt
      have : rd side (j : Int) ≠ (l.length : Int) - 1 := fun e => h3 ((mem_rd _ _).mpr ⟨j, hj, e⟩)
      simp only [Bool.and_eq_true, Bool.or_eq_true, decide_eq_true_eq]
      refine ⟨⟨a1, by omega⟩, ?_⟩
      by_cases c : j = 0
      · exact .inl c
      · exact .inr (a3 (by omega))
    · have h4 := rise_lt h1 i 0 (by omega)
      have h5 := (rise_at h1 0 (by omega)).1
      rw [Nat.zero_add, e] at h4
      rw [show ((0 : Nat) : Int) = 0 from rfl] at h4 h5
      omega
  · rintro ⟨h1, h2, h3⟩
    refine ⟨(allTo_iff _ _).mpr fun j hj => ?_, (mem_rd _ _).mpr ⟨0, by omega, h3⟩, fun hm => ?_⟩
    · obtain ⟨a1, a2, a3⟩ := rise_at h1 j hj
      unfold riseAt
      simp only [Bool.and_eq_true, Bool.or_eq_true, decide_eq_true_eq]
      refine ⟨⟨a1, by omega⟩, ?_⟩
      by_cases c : j = 0
      · exact .inl c
      · exact .inr (a3 (by omega))
    · obtain ⟨i, hi, e⟩ := (mem_rd _ _).mp hm
      have := (rise_at h1 i hi).2.1
      omega
def pastTo (w : List (List Int)) (side : List Int) (a : Nat) (m : Nat) : Int := sumN (fun b => if (b : Int) ∈ side then 0 else ent w a b) m
def cutTo (w : List (List Int)) (side : List Int) (n i : Nat) : Int := sumN (fun j => pastTo w side (rd side (j : Int)).toNat n) i
def cutWF (l : List (List Int)) (side : List Int) : Int × Bool := if cutOk l side = true then (cutTo l side l.length side.length, true) else (0, false)
theorem pastTo_bound {n : Nat} {w : List (List Int)} (hw : Sq n w) (side : List Int) (a : Nat) (ha : a < n) (m : Nat) (hm : m ≤ n) : -(1000 * (m : Int)) ≤ pastTo w side a m ∧ pastTo w side a m ≤ 1000 * (m : Int) :=
  sumN_bound _ 1000 n (fun b hb => by have := hw.lo a b ha hb; split <;> omega) m hm
theorem cutTo_bound {n : Nat} {w : List (List Int)} (hw : Sq n w) (hn : n ≤ 100) (side : List Int) (hs : ∀ i : Nat, i < side.length → 0 ≤ rd side (i : Int) ∧ rd side (i : Int) < (n : Int)) (i : Nat) (hi : i ≤ side.length) : -(100000 * (i : Int)) ≤ cutTo w side n i ∧ cutTo w side n i ≤ 100000 * (i : Int) :=
  sumN_bound _ 100000 side.length (fun j hj => by have h1 := hs j hj; have := pastTo_bound hw side (rd side (j : Int)).toNat (by omega) n (Nat.le_refl _); omega) i hi

theorem impl_CutWidth_l0 {n : Nat} {w : List (List Int)} (hw : Sq n w) (hn : n ≤ 100) (side : List Int) (hsl : side.length ≤ 1048576) (hs : ∀ i : Nat, i < side.length → 0 ≤ rd side (i : Int) ∧ rd side (i : Int) < (n : Int)) :
    Ev (fun k => impl_CutWidth.l0 k w side 0 side (side.length : Int) 0) (cutTo w side n side.length, true) := by
  have key := ev_up side.length (fun k i => impl_CutWidth.l0 k w side (cutTo w side n i) side (side.length : Int) (i : Int)) (cutTo w side n side.length, true) (fun _ => True) trivial ?_ ?_
  · exact key
  · intro _
    refine Ev.succ ?_
    simp only [impl_CutWidth.l0]
    exact Ev.neg (by omega) (Ev.now _)
  · intro i hi _ hnx
    have hnx := hnx trivial
    obtain ⟨s1, s2⟩ := hs i hi
    obtain ⟨a, hA⟩ := exists_nat_of_nonneg s1
    rw [hA] at s2
    have ha : a < n := by omega
    have cb := cutTo_bound hw hn side hs i (by omega)
    refine Ev.succ ?_
    simp only [impl_CutWidth.l0]
    rw [hA, hw.len, rdL_getD, hw.row a ha]
    refine Ev.pos (by omega) (Ev.pos (by omega) (Ev.pos (by omega) (Ev.pos (by omega) (Ev.pos (by omega) ?_))))
    have k2 := ev_up n (fun k b => impl_CutWidth.l1 k w side (cutTo w side n i + pastTo w side a b) side (side.length : Int) (i : Int) (w.getD a []) (n : Int) (b : Int)) (cutTo w side n side.length, true) (fun _ => True) trivial ?_ ?_
    · rw [show cutTo w side n i + pastTo w side a 0 = cutTo w side n i from Int.add_zero _] at k2
      exact k2
    · intro _
      refine Ev.succ ?_
      simp only [impl_CutWidth.l1]
      rw [w64 (x := (i : Int) + 1) (by omega) (by omega)]
      have e : cutTo w side n (i + 1) = cutTo w side n i + pastTo w side a n := by
        rw [show cutTo w side n (i + 1) = cutTo w side n i + pastTo w side (rd side (i : Int)).toNat n from rfl, hA, Int.toNat_natCast]
      rw [e] at hnx
      exact Ev.neg (by omega) hnx
    · intro b hb _ hb2
      have hb2 := hb2 trivial
      have pb := pastTo_bound hw side a ha b (by omega)
      have eb := hw.lo a b ha hb
      have e : pastTo w side a (b + 1) = pastTo w side a b + (if (b : Int) ∈ side then 0 else ent w a b) := rfl
      rw [e] at hb2
      refine Ev.succ ?_
      simp only [impl_CutWidth.l1]
      rw [hw.row a ha, show rd (w.getD a []) (b : Int) = ent w a b from rfl, w64 (x := cutTo w side n i + pastTo w side a b + ent w a b) (by omega) (by omega), w64 (x := (b : Int) + 1) (by omega) (by omega)]
      refine Ev.pos (by omega) (Ev.pos (by omega) (Ev.pos (by omega) (Ev.bind (slices_Contains_ev side (b : Int) hsl) (Ev.ite (fun c => ?_) (fun c => ?_)))))
      · rw [if_pos (of_decide_eq_true c), Int.add_zero] at hb2
        exact hb2
      · rw [if_neg (fun z => c (decide_eq_true z)), ← Int.add_assoc] at hb2
        exact hb2
theorem impl_CutWidth_ev (l : List (List Int)) (side : List Int) (h : l.length ≤ 1048576) (hg : ∀ r ∈ l, r.length ≤ 1048576) (hs : side.length ≤ 1048576) : Ev (fun k => impl_CutWidth.f k l side) (cutWF l side) := by
  unfold impl_CutWidth.f
  have no : ∀ x : Bool, x = true → cutOk l side = false → Ev (fun k => impl_CutWidth.j0 k l side x) (cutWF l side) := fun x hx hc => by
    refine Ev.succ ?_
    simp only [impl_CutWidth.j0]
    refine Ev.pos hx (Ev.to (Ev.now _) ?_)
    unfold cutWF; rw [hc]; rfl
  refine Ev.bind (impl_GoodNet_ev l h hg) (Ev.ite (fun hk => ?_) (fun hk => no _ rfl (by unfold cutOk; rw [Bool.eq_false_iff.mpr hk]; rfl)))
  obtain ⟨h1, sq, bd⟩ := netOk_rows hk
  rw [w64 (x := (l.length : Int) - 1) (by omega) (by omega)]
  refine Ev.bind (impl_isRising_ev side (l.length : Int) hs ⟨by omega, by omega⟩) (Ev.ite (fun hr => ?_) (fun hr => no _ rfl (by unfold cutOk; rw [Bool.eq_false_iff.mpr hr]; simp)))
  refine Ev.bind (slices_Contains_ev side 0 hs) (Ev.ite (fun hz => ?_) (fun hz => no _ rfl (by unfold cutOk; rw [Bool.eq_false_iff.mpr hz]; simp)))
  refine Ev.bind (slices_Contains_ev side ((l.length : Int) - 1) hs) ?_
  by_cases c : decide (((l.length : Int) - 1) ∈ side) = true
  · exact no _ c (by unfold cutOk; rw [c]; simp)
  · refine Ev.succ ?_
    simp only [impl_CutWidth.j0]
    refine Ev.neg c (Ev.to (impl_CutWidth_l0 sq (by omega) side hs (fun i hi => by have := rise_at hr i hi; exact ⟨this.1, this.2.1⟩)) ?_)
    unfold cutWF cutOk
    rw [hk, hr, hz, Bool.eq_false_iff.mpr c]; rfl

theorem spec_CutWidth_l0 {n : Nat} {w : List (List Int)} (hw : Sq n w) (hn : n ≤ 100) (side : List Int) (hsl : side.length ≤ 1048576) (hs : ∀ i : Nat, i < side.length → 0 ≤ rd side (i : Int) ∧ rd side (i : Int) < (n : Int)) :
    Ev (fun k => spec_CutWidth.l0 k w side 0 side (side.length : Int) 0) (cutTo w side n side.length, true) := by
  have key := ev_up side.length (fun k i => spec_CutWidth.l0 k w side (cutTo w side n i) side (side.length : Int) (i : Int)) (cutTo w side n side.length, true) (fun _ => True) trivial ?_ ?_
  · exact key
  · intro _
    refine Ev.succ ?_
    simp only [spec_CutWidth.l0]
    exact Ev.neg (by omega) (Ev.now _)
  · intro i hi _ hnx
    have hnx := hnx trivial
    obtain ⟨s1, s2⟩ := hs i hi
    obtain ⟨a, hA⟩ := exists_nat_of_nonneg s1
    rw [hA] at s2
    have ha : a < n := by omega
    have cb := cutTo_bound hw hn side hs i (by omega)
    refine Ev.succ ?_
    simp only [spec_CutWidth.l0]
    rw [hA, hw.len]
    refine Ev.pos (by omega) (Ev.pos (by omega) (Ev.pos (by omega) ?_))
    have k2 := ev_up n (fun k b => spec_CutWidth.l1 k w side (cutTo w side n i + pastTo w side a b) (a : Int) side (side.length : Int) (i : Int) (n : Int) (b : Int)) (cutTo w side n side.length, true) (fun _ => True) trivial ?_ ?_
    · rw [show cutTo w side n i + pastTo w side a 0 = cutTo w side n i from Int.add_zero _] at k2
      exact k2
    · intro _
      refine Ev.succ ?_
      simp only [spec_CutWidth.l1]
      rw [w64 (x := (i : Int) + 1) (by omega) (by omega)]
      have e : cutTo w side n (i + 1) = cutTo w side n i + pastTo w side a n := by
        rw [show cutTo w side n (i + 1) = cutTo w side n i + pastTo w side (rd side (i : Int)).toNat n from rfl, hA, Int.toNat_natCast]
      rw [e] at hnx
      exact Ev.neg (by omega) hnx
    · intro b hb _ hb2
      have hb2 := hb2 trivial
      have pb := pastTo_bound hw side a ha b (by omega)
      have eb := hw.lo a b ha hb
      have e : pastTo w side a (b + 1) = pastTo w side a b + (if (b : Int) ∈ side then 0 else ent w a b) := rfl
      rw [e] at hb2
      refine Ev.succ ?_
      simp only [spec_CutWidth.l1]
      rw [rdL_getD, hw.len, hw.row a ha, show rd (w.getD a []) (b : Int) = ent w a b from rfl, w64 (x := cutTo w side n i + pastTo w side a b + ent w a b) (by omega) (by omega), w64 (x := (b : Int) + 1) (by omega) (by omega)]
      refine Ev.pos (by omega) (Ev.bind (spec_l1Has_ev side (b : Int) (by omega)) (Ev.ite (fun c => ?_) (fun c => ?_)))
      · rw [if_pos (of_decide_eq_true c), Int.add_zero] at hb2
        exact hb2
      · rw [if_neg (fun z => c (decide_eq_true z)), ← Int.add_assoc] at hb2
        exact Ev.pos (by omega) (Ev.pos (by omega) (Ev.pos (by omega) (Ev.pos (by omega) hb2)))
theorem spec_CutWidth_ev (l : List (List Int)) (side : List Int) (h : l.length ≤ 1048576) (hg : ∀ r ∈ l, r.length ≤ 1048576) (hs : side.length ≤ 1048576) : Ev (fun k => spec_CutWidth.f k l side) (cutWF l side) := by
  unfold spec_CutWidth.f
  have no : ∀ x : Bool, x = true → cutOk l side = false → Ev (fun k => spec_CutWidth.j0 k l side x) (cutWF l side) := fun x hx hc => by
    refine Ev.succ ?_
    simp only [spec_CutWidth.j0]
    refine Ev.pos hx (Ev.to (Ev.now _) ?_)
    unfold cutWF; rw [hc]; rfl
  refine Ev.bind (spec_GoodNet_ev l h hg) (Ev.ite (fun hk => ?_) (fun hk => no _ rfl (by unfold cutOk; rw [Bool.eq_false_iff.mpr hk]; rfl)))
  obtain ⟨h1, sq, bd⟩ := netOk_rows hk
  have iff := cutOk_iff (l := l) (side := side) h1.1
  have co : cutOk l side = true ↔ (rising side ((l.length : Int) - 1) = true ∧ side.length ≠ 0 ∧ rd side 0 = 0) := by
    rw [← iff]
    unfold cutOk
    rw [hk]
    simp only [Bool.true_and, Bool.and_eq_true, Bool.not_eq_true', decide_eq_true_eq, decide_eq_false_iff_not]
  rw [w64 (x := (l.length : Int) - 1) (by omega) (by omega)]
  refine Ev.bind (spec_l8Rising_ev side ((l.length : Int) - 1) hs) (Ev.ite (fun hr => ?_) (fun hr => no _ rfl (Bool.eq_false_iff.mpr (fun z => hr (co.mp z).1))))
  refine Ev.ite (fun hz => no _ rfl (Bool.eq_false_iff.mpr (fun z => (co.mp z).2.1 (by omega)))) (fun hz => Ev.pos (by omega) ?_)
  by_cases c : rd side 0 = 0
  · have hc := co.mpr ⟨hr, by omega, c⟩
    refine Ev.succ ?_
    simp only [spec_CutWidth.j0]
    refine Ev.neg (by rw [c]; simp) (Ev.to (spec_CutWidth_l0 sq (by omega) side hs (fun i hi => by have := rise_at hr i hi; exact ⟨this.1, by omega⟩)) ?_)
    unfold cutWF; rw [hc]; rfl
  · exact no _ (by simpa using c) (Bool.eq_false_iff.mpr (fun z => c (co.mp z).2.2))

theorem cutTo_across {w : List (List Int)} {side : List Int} {n : Nat} (hr : rising side (n : Int) = true) : cutTo w side n side.length = across (ent w) n (fun b => decide ((b : Int) ∈ side)) := by
  have gen : ∀ i, i ≤ side.length → cutTo w side n i = sumN (fun a => if (∃ j : Nat, j < i ∧ rd side (j : Int) = (a : Int)) then pastTo w side a n else 0) n := by
    intro i
    induction i with
    | zero =>
      intro _
      rw [sumN_congr (g := fun _ => 0) (fun a _ => by rw [if_neg (by rintro ⟨j, hj, _⟩; omega)]), sumN_zero]; rfl
    | succ i ih =>
      intro hi
      obtain ⟨s1, s2, _⟩ := rise_at hr i (by omega)
      obtain ⟨a0, hA⟩ := exists_nat_of_nonneg s1
      rw [show cutTo w side n (i + 1) = cutTo w side n i + pastTo w side (rd side (i : Int)).toNat n from rfl, ih (by omega), hA, Int.toNat_natCast]
      have hs : sumN (fun a => if a = a0 then pastTo w side a n else 0) n = pastTo w side a0 n := by
        rw [sumN_single _ a0 n (fun x _ hne => by rw [if_neg hne]), if_pos (by omega), if_pos rfl]
      rw [← hs, ← sumN_add]
      refine sumN_congr fun a ha => ?_
      by_cases e : a = a0
      · subst e
        rw [if_pos rfl, if_neg, if_pos ⟨i, by omega, hA⟩, Int.zero_add]
        rintro ⟨j, hj, hje⟩
        have := rise_lt hr (i - j) j (by omega)
        rw [show j + (i - j) = i by omega, hA, hje] at this
        omega
      · rw [if_neg e, Int.add_zero]
        by_cases c : ∃ j : Nat, j < i ∧ rd side (j : Int) = (a : Int)
        · obtain ⟨j, hj, hje⟩ := c
          rw [if_pos ⟨j, hj, hje⟩, if_pos ⟨j, by omega, hje⟩]
        · rw [if_neg c, if_neg]
          rintro ⟨j, hj, hje⟩
          by_cases d : j = i
          · subst d; rw [hA] at hje; exact e (by omega)
          · exact c ⟨j, by omega, hje⟩
  rw [gen side.length (Nat.le_refl _)]
  unfold across
  refine sumN_congr fun a ha => ?_
  by_cases c : (a : Int) ∈ side
  · rw [if_pos ((mem_rd _ _).mp c)]
    unfold pastTo
    refine sumN_congr fun b hb => ?_
    by_cases d : (b : Int) ∈ side
    · rw [if_pos d, if_neg (by simp [d])]
    · rw [if_neg d, if_pos (by simp [c, d])]
  · rw [if_neg (fun z => c ((mem_rd _ _).mpr z))]
    rw [sumN_congr (g := fun _ => 0) (fun b _ => by rw [if_neg (by simp [c])]), sumN_zero]

structure NetD (n : Nat) (l : List (List Int)) : Prop where
  len : l.length = n
  row : ∀ r ∈ l, r.length = n ∧ ∀ x ∈ r, 0 ≤ x ∧ x ≤ 9
theorem cur_net (l : List Int) (a s : Int) (hl : bytesOk l) (ha : 0 ≤ a ∧ a ≤ 4611686018427300000) :
    ∃ (n : Nat) (r : List (List Int)) (a' s' : Int), Ev (fun k => spec_l1Cur_net.f k l a s) (r, a', s') ∧ (1 ≤ n ∧ n ≤ 9) ∧ NetD n r ∧ a ≤ a' ∧ a' ≤ a + 10000 := by
  have rowL : ∀ (n i : Nat) (xs : List (List Int)) (res : List (List Int) × Int × Int) (j d : Nat) (r : List Int) (a s : Int), j + d = n → r.length = j → (∀ x ∈ r, 0 ≤ x ∧ x ≤ 9) → i < n → n ≤ 9 → xs.length = i → (0 ≤ a ∧ a + 10 * d ≤ 4611686018427380000) →
      (∀ (r' : List Int) (a' s' : Int), r'.length = n → (∀ x ∈ r', 0 ≤ x ∧ x ≤ 9) → a ≤ a' → a' ≤ a + 10 * d → Ev (fun k => spec_l1Cur_net.l0 k (n : Int) (xs ++ [r']) ((i + 1 : Nat) : Int) l a' s') res → Ev (fun k => spec_l1Cur_net.l1 k (n : Int) xs (i : Int) r (j : Int) l a s) res) → True := fun _ _ _ _ _ _ _ _ _ _ _ _ _ _ _ _ _ => trivial
  have rowS : ∀ (n i : Nat) (xs : List (List Int)), i < n → n ≤ 9 → xs.length = i → ∀ (d j : Nat) (r : List Int) (a s : Int), j + d = n → r.length = j → (∀ x ∈ r, 0 ≤ x ∧ x ≤ 9) → (0 ≤ a ∧ a + 10 * d ≤ 4611686018427380000) →
      ∃ (r' : List Int) (a' s' : Int), r'.length = n ∧ (∀ x ∈ r', 0 ≤ x ∧ x ≤ 9) ∧ a ≤ a' ∧ a' ≤ a + 10 * d ∧ ∀ res, Ev (fun k => spec_l1Cur_net.l0 k (n : Int) (xs ++ [r']) ((i + 1 : Nat) : Int) l a' s') res → Ev (fun k => spec_l1Cur_net.l1 k (n : Int) xs (i : Int) r (j : Int) l a s) res := by
    intro n i xs hi hn hx d
    induction d with
    | zero =>
      intro j r a s hj hr hg ha
      refine ⟨r, a, s, by omega, hg, by omega, by omega, fun res hE => Ev.succ ?_⟩
      simp only [spec_l1Cur_net.l1]
      rw [w64 (x := (i : Int) + 1) (by omega) (by omega)]
      exact Ev.neg (by omega) (Ev.pos (by omega) hE)
    | succ d ih =>
      intro j r a s hj hr hg ha
      have go : ∀ (v a1 s1 : Int), 0 ≤ v ∧ v ≤ 9 → a ≤ a1 → a1 ≤ a + 10 → ∃ (r' : List Int) (a' s' : Int), r'.length = n ∧ (∀ x ∈ r', 0 ≤ x ∧ x ≤ 9) ∧ a ≤ a' ∧ a' ≤ a + 10 * ((d + 1 : Nat) : Int) ∧ ∀ res, Ev (fun k => spec_l1Cur_net.l0 k (n : Int) (xs ++ [r']) ((i + 1 : Nat) : Int) l a' s') res → Ev (fun k => spec_l1Cur_net.l1 k (n : Int) xs (i : Int) (r ++ [v]) (wrap64 ((j : Int) + 1)) l a1 s1) res := fun v a1 s1 hv h1 h2 => by
        obtain ⟨r', a', s', g1, g2, g3, g4, g5⟩ := ih (j + 1) (r ++ [v]) a1 s1 (by omega) (by simp; omega) (fun x hx => by
          rcases List.mem_append.mp hx with hx | hx
          · exact hg x hx
          · rw [List.mem_singleton] at hx; subst hx; exact hv) (by omega)
        refine ⟨r', a', s', g1, g2, by omega, by omega, fun res hE => ?_⟩
        rw [w64 (x := (j : Int) + 1) (by omega) (by omega)]
        exact g5 res hE
      by_cases e : (i : Int) = (j : Int)
      · obtain ⟨r', a', s', g1, g2, g3, g4, g5⟩ := go 0 a s (by omega) (by omega) (by omega)
        refine ⟨r', a', s', g1, g2, g3, g4, fun res hE => Ev.succ ?_⟩
        simp only [spec_l1Cur_net.l1]
        exact Ev.pos (by omega) (Ev.pos e (Ev.pos (by omega) (g5 res hE)))
      · obtain ⟨b, a1, s1, e1, b1, b2⟩ := cur_one l a s 2 hl (by omega)
        cases b with
        | true =>
          obtain ⟨p, a2, s2, e2, p0, p1, p2, p3⟩ := cur_pick l a1 s1 10 hl (by omega)
          obtain ⟨r', a', s', g1, g2, g3, g4, g5⟩ := go p a2 s2 (by omega) (by omega) (by omega)
          refine ⟨r', a', s', g1, g2, g3, g4, fun res hE => Ev.succ ?_⟩
          simp only [spec_l1Cur_net.l1]
          exact Ev.pos (by omega) (Ev.neg e (Ev.bind0 e1 (Ev.pos rfl (Ev.bind0 e2 (Ev.pos (by omega) (g5 res hE))))))
        | false =>
          obtain ⟨r', a', s', g1, g2, g3, g4, g5⟩ := go 0 a1 s1 (by omega) (by omega) (by omega)
          refine ⟨r', a', s', g1, g2, g3, g4, fun res hE => Ev.succ ?_⟩
          simp only [spec_l1Cur_net.l1]
          exact Ev.pos (by omega) (Ev.neg e (Ev.bind0 e1 (Ev.neg (by simp) (Ev.pos (by omega) (g5 res hE)))))
  have all : ∀ (n : Nat), 1 ≤ n → n ≤ 9 → ∀ (d i : Nat) (xs : List (List Int)) (a s : Int), i + d = n → xs.length = i → (∀ r ∈ xs, r.length = n ∧ ∀ x ∈ r, 0 ≤ x ∧ x ≤ 9) → (0 ≤ a ∧ a + 100 * d + 10 ≤ 4611686018427380000) →
      ∃ (r : List (List Int)) (a' s' : Int), Ev (fun k => spec_l1Cur_net.l0 k (n : Int) xs (i : Int) l a s) (r, a', s') ∧ NetD n r ∧ a ≤ a' ∧ a' ≤ a + 100 * d + 10 := by
    intro n h1 hn d
    induction d with
    | zero =>
      intro i xs a s hi hx hg ha
      obtain ⟨b, a1, s1, e1, b1, b2⟩ := cur_one l a s 30 hl (by omega)
      cases b with
      | true =>
        obtain ⟨p, a2, s2, e2, p0, p1, p2, p3⟩ := cur_pick l a1 s1 2 hl (by omega)
        have r0 : rd_L2 xs 0 = xs.getD 0 [] := rdL_getD xs 0
        have hx0 : 0 < xs.length := by omega
        have e0 : xs.getD 0 [] = xs[0] := by rw [List.getD_eq_getElem?_getD, List.getElem?_eq_getElem hx0]; rfl
        obtain ⟨q1, q2⟩ := hg xs[0] (List.getElem_mem hx0)
        refine ⟨xs.set (0 : Int).toNat ((xs.getD 0 []).set (0 : Int).toNat p), a2, s2, Ev.succ ?_, ⟨by simp; omega, fun r hr => ?_⟩, by omega, by omega⟩
        · simp only [spec_l1Cur_net.l0]
          rw [r0]
          exact Ev.neg (by omega) (Ev.bind0 e1 (Ev.pos rfl (Ev.pos (by omega) (Ev.bind0 e2 (Ev.pos (by rw [e0]; omega) (Ev.now _))))))
        · rcases List.mem_or_eq_of_mem_set hr with hr | hr
          · exact hg r hr
          · subst hr
            rw [e0]
            refine ⟨by simp; exact q1, fun x hx => ?_⟩
            rcases List.mem_or_eq_of_mem_set hx with hx | hx
            · exact q2 x hx
            · subst hx; omega
      | false =>
        refine ⟨xs, a1, s1, Ev.succ ?_, ⟨by omega, hg⟩, by omega, by omega⟩
        simp only [spec_l1Cur_net.l0]
        exact Ev.neg (by omega) (Ev.bind0 e1 (Ev.neg (by simp) (Ev.now _)))
    | succ d ih =>
      intro i xs a s hi hx hg ha
      obtain ⟨r', a1, s1, g1, g2, g3, g4, g5⟩ := rowS n i xs (by omega) hn hx n 0 [] a s (by omega) rfl (fun x hx => by cases hx) (by omega)
      obtain ⟨r, a2, s2, hE, h2, h3, h4⟩ := ih (i + 1) (xs ++ [r']) a1 s1 (by omega) (by simp; omega) (fun r hr => by
        rcases List.mem_append.mp hr with hr | hr
        · exact hg r hr
        · rw [List.mem_singleton] at hr; subst hr; exact ⟨g1, g2⟩) (by omega)
      refine ⟨r, a2, s2, Ev.succ ?_, h2, by omega, by omega⟩
      simp only [spec_l1Cur_net.l0]
      exact Ev.pos (by omega) (g5 _ hE)
  unfold spec_l1Cur_net.f
  obtain ⟨p, a1, s1, e1, p0, p1, p2, p3⟩ := cur_pick l a s 4 hl (by omega)
  obtain ⟨b, a2, s2, e2, b1, b2⟩ := cur_one l a1 s1 20 hl (by omega)
  cases b with
  | true =>
    obtain ⟨q, a3, s3, e3, q1, q2, q3⟩ := cur_among l a2 s2 [1, 8, 9] hl (by omega) (by simp)
    have hq : 1 ≤ q ∧ q ≤ 9 := by
      simp only [List.mem_cons, List.not_mem_nil, or_false] at q1
      omega
    obtain ⟨n, rfl⟩ := exists_nat_of_nonneg (show 0 ≤ q by omega)
    obtain ⟨r, a4, s4, hE, h2, h3, h4⟩ := all n (by omega) (by omega) n 0 [] a3 s3 (by omega) rfl (fun r hr => by cases hr) (by omega)
    refine ⟨n, r, a4, s4, Ev.bind0 e1 (Ev.bind0 e2 (Ev.pos rfl (Ev.bind0 e3 (Ev.succ ?_)))), ⟨by omega, by omega⟩, h2, by omega, by omega⟩
    simp only [spec_l1Cur_net.j0]; exact hE
  | false =>
    obtain ⟨n, hn⟩ := exists_nat_of_nonneg (show 0 ≤ 2 + p by omega)
    obtain ⟨r, a4, s4, hE, h2, h3, h4⟩ := all n (by omega) (by omega) n 0 [] a2 s2 (by omega) rfl (fun r hr => by cases hr) (by omega)
    refine ⟨n, r, a4, s4, Ev.bind0 e1 (Ev.bind0 e2 (Ev.neg (by simp) (Ev.succ ?_))), ⟨by omega, by omega⟩, h2, by omega, by omega⟩
    simp only [spec_l1Cur_net.j0]
    rw [w64 (by omega) (by omega), hn]; exact hE

theorem spec_DrawCutOf_ev (l : List Int) (hl : bytesOk l) : ∃ (n : Nat) (r : List (List Int)), Ev (fun k => spec_DrawCutOf.f k l) r ∧ (1 ≤ n ∧ n ≤ 9) ∧ NetD n r := by
  obtain ⟨n, r, a1, s1, e1, h1, h2, _⟩ := cur_net l 0 0 hl (by omega)
  unfold spec_DrawCutOf.f spec_DrawGoodNet.f
  exact ⟨n, r, Ev.bind (Ev.bind e1 (Ev.now _)) (Ev.now _), h1, h2⟩
theorem spec_DrawCutWidth_ev (l : List Int) (hl : bytesOk l) : ∃ (n : Nat) (r : List (List Int)) (side : List Int), Ev (fun k => spec_DrawCutWidth.f k l) (r, side) ∧ (1 ≤ n ∧ n ≤ 9) ∧ NetD n r ∧ side.length ≤ 100 := by
  obtain ⟨n, r, a1, s1, e1, h1, h2, h3, h4⟩ := cur_net l 0 0 hl (by omega)
  have loop : ∀ (d i : Nat) (x : List Int) (a s : Int), i + d = n → x.length ≤ i → (0 ≤ a ∧ a + 10 * d ≤ 4611686018427380000) → ∃ side, Ev (fun k => spec_DrawCutWidth.l0 k r x (i : Int) l a s) (r, side) ∧ side.length ≤ 100 := by
    intro d
    induction d with
    | zero =>
      intro i x a s hi hx ha
      refine ⟨x, Ev.succ ?_, by omega⟩
      simp only [spec_DrawCutWidth.l0]
      rw [h2.len]
      exact Ev.neg (by omega) (Ev.now _)
    | succ d ih =>
      intro i x a s hi hx ha
      obtain ⟨b, a2, s2, e2, b1, b2⟩ := cur_one l a s 2 hl (by omega)
      cases b with
      | true =>
        obtain ⟨side, hE, g⟩ := ih (i + 1) (x ++ [(i : Int)]) a2 s2 (by omega) (by simp; omega) (by omega)
        refine ⟨side, Ev.succ ?_, g⟩
        simp only [spec_DrawCutWidth.l0]
        rw [h2.len, w64 (x := (i : Int) + 1) (by omega) (by omega)]
        exact Ev.pos (by omega) (Ev.bind0 e2 (Ev.pos rfl (Ev.pos (by omega) hE)))
      | false =>
        obtain ⟨side, hE, g⟩ := ih (i + 1) x a2 s2 (by omega) (by omega) (by omega)
        refine ⟨side, Ev.succ ?_, g⟩
        simp only [spec_DrawCutWidth.l0]
        rw [h2.len, w64 (x := (i : Int) + 1) (by omega) (by omega)]
        exact Ev.pos (by omega) (Ev.bind0 e2 (Ev.neg (by simp) hE))
  obtain ⟨side, hE, g⟩ := loop (n - 1) 1 [0] a1 s1 (by omega) (by simp) (by omega)
  refine ⟨n, r, side, ?_, h1, h2, g⟩
  unfold spec_DrawCutWidth.f
  exact Ev.bind e1 hE

def fitsAt (w f : List (List Int)) (i j : Nat) : Bool := decide (ent f i j ≤ ent w i j)
def keptAt (f : List (List Int)) (i : Nat) : Bool := decide (i = 0) || (decide (f.length - 1 ≤ i) || decide (valAt (ent f) f.length i = 0))
def hallOk (w f : List (List Int)) (i : Nat) : Bool := allTo (fitsAt w f i) f.length && keptAt f i
def netFlowOk (w f : List (List Int)) : Bool := rowsOk f && (decide (f.length = w.length) && allTo (hallOk w f) f.length)
theorem netFlowOk_fl {w f : List (List Int)} (h : netFlowOk w f = true) : f.length = w.length ∧ IsFl w.length (ent w) f ∧ Cons w.length f := by
  unfold netFlowOk at h
  simp only [Bool.and_eq_true, decide_eq_true_eq] at h
  obtain ⟨h1, h2, h3⟩ := h
  obtain ⟨_, sq, bd⟩ := rowsOk_sq h1
  rw [h2] at sq bd h3
  have h4 := (allTo_iff _ _).mp h3
  refine ⟨h2, ⟨h2, sq.row, fun a b ha hb => ?_⟩, fun a ha ha2 => ?_⟩
  · have h5 := h4 a ha
    unfold hallOk at h5
    simp only [Bool.and_eq_true] at h5
    rw [h2] at h5
    have h6 := (allTo_iff _ _).mp h5.1 b hb
    exact ⟨(bd a b ha hb).1, of_decide_eq_true h6⟩
  · have h5 := h4 a (by omega)
    unfold hallOk keptAt at h5
    simp only [Bool.and_eq_true, Bool.or_eq_true, decide_eq_true_eq] at h5
    rw [h2] at h5
    rcases h5.2 with h6 | h6 | h6
    · omega
    · omega
    · exact h6

theorem spec_l13Flow_ev {w : List (List Int)} (hk : netOk w = true) (f : List (List Int)) (h : f.length ≤ 1048576) (hg : ∀ r ∈ f, r.length ≤ 1048576) : Ev (fun k => spec_l13Flow.f k w f) (netFlowOk w f) := by
  obtain ⟨h1, sqw, bdw⟩ := netOk_rows hk
  unfold spec_l13Flow.f
  refine Ev.bind (spec_l13Rows_ev f h hg) (Ev.ite (fun hr => ?_) (fun hr => ?_))
  · obtain ⟨h2, sq, bd⟩ := rowsOk_sq hr
    refine Ev.succ ?_
    simp only [spec_l13Flow.j0]
    by_cases c : f.length = w.length
    · refine Ev.neg (by rw [c]; simp) ?_
      have inner : ∀ (i : Nat) (r : Bool), i < f.length → Ev (fun k => spec_l13Flow.l0 k w f (f.length : Int) ((i + 1 : Nat) : Int)) r → Ev (fun k => spec_l13Flow.l0 k w f (f.length : Int) (i : Int)) (if allTo (fitsAt w f i) f.length = true then (if keptAt f i = true then r else false) else false) := by
        intro i r hi hE
        refine Ev.succ ?_
        simp only [spec_l13Flow.l0]
        refine Ev.pos (by omega) ?_
        have key := ev_all f.length (fitsAt w f i) (fun k j => spec_l13Flow.l1 k w f (i : Int) (sumN (fun k => ent f i k - ent f k i) j) (f.length : Int) (i : Int) (f.length : Int) (j : Int)) (if keptAt f i = true then r else false) false ?_ ?_ ?_ (allTo (fitsAt w f i) f.length) (allTo_iff _ _)
        · exact key
        · intro r2 j hj hp hn
          have b1 := bd i j hi hj
          have b2 := bd j i hj hi
          have b3 := sumN_bound (fun k => ent f i k - ent f k i) 100 f.length (fun k hk => by have := bd i k hi hk; have := bd k i hk hi; omega) j (by omega)
          refine Ev.succ ?_
          simp only [spec_l13Flow.l1]
          rw [rdL_getD, rdL_getD, rdL_getD, sq.row i hi, sq.row j hj, sqw.row i (by omega)]
          rw [show rd (f.getD i []) (j : Int) = ent f i j from rfl, show rd (f.getD j []) (i : Int) = ent f j i from rfl, show rd (w.getD i []) (j : Int) = ent w i j from rfl, w64 (x := ent f i j - ent f j i) (by omega) (by omega), w64 (x := sumN (fun k => ent f i k - ent f k i) j + (ent f i j - ent f j i)) (by omega) (by omega), w64 (x := (j : Int) + 1) (by omega) (by omega)]
          have hle : ent f i j ≤ ent w i j := of_decide_eq_true hp
          exact Ev.pos (by omega) (Ev.pos (by omega) (Ev.pos (by omega) (Ev.pos (by omega) (Ev.pos (by omega) (Ev.pos (by omega) (Ev.pos (by omega) (Ev.neg (by omega) (Ev.pos (by omega) (Ev.pos (by omega) hn)))))))))
        · intro j hj hp
          refine Ev.succ ?_
          simp only [spec_l13Flow.l1]
          rw [rdL_getD, rdL_getD, sq.row i hi, sqw.row i (by omega)]
          rw [show rd (f.getD i []) (j : Int) = ent f i j from rfl, show rd (w.getD i []) (j : Int) = ent w i j from rfl]
          have hle : ¬ ent f i j ≤ ent w i j := of_decide_eq_false hp
          exact Ev.pos (by omega) (Ev.pos (by omega) (Ev.pos (by omega) (Ev.pos (by omega) (Ev.pos (by omega) (Ev.pos (by omega) (Ev.pos (by omega) (Ev.pos (by omega) (Ev.now _))))))))
        · intro _
          refine Ev.succ ?_
          simp only [spec_l13Flow.l1]
          rw [w64 (x := (i : Int) + 1) (by omega) (by omega), w64 (x := (f.length : Int) - 1) (by omega) (by omega)]
          refine Ev.neg (by omega) ?_
          unfold keptAt
          by_cases d : i = 0
          · refine Ev.neg (by omega) ?_
            rw [decide_eq_true d, Bool.true_or, if_pos rfl]; exact hE
          · refine Ev.pos (by omega) ?_
            rw [decide_eq_false d, Bool.false_or]
            by_cases e : f.length - 1 ≤ i
            · refine Ev.neg (by omega) ?_
              rw [decide_eq_true e, Bool.true_or, if_pos rfl]; exact hE
            · refine Ev.pos (by omega) ?_
              rw [decide_eq_false e, Bool.false_or]
              refine Ev.ite (fun z => ?_) (fun z => ?_)
              · rw [if_pos (show decide (valAt (ent f) f.length i = 0) = true from decide_eq_true z)]; exact hE
              · rw [if_neg (show ¬ decide (valAt (ent f) f.length i = 0) = true from fun q => z (of_decide_eq_true q))]; exact Ev.now _
      have key := ev_all f.length (hallOk w f) (fun k i => spec_l13Flow.l0 k w f (f.length : Int) (i : Int)) true false ?_ ?_ ?_ (allTo (hallOk w f) f.length) (allTo_iff _ _)
      · refine Ev.to key ?_
        unfold netFlowOk
        rw [hr, decide_eq_true c]
        cases allTo (hallOk w f) f.length <;> rfl
      · intro r i hi hp hn
        unfold hallOk at hp
        simp only [Bool.and_eq_true] at hp
        have := inner i r hi hn
        rw [if_pos hp.1, if_pos hp.2] at this
        exact this
      · intro i hi hp
        have hex : ∃ r, Ev (fun k => spec_l13Flow.l0 k w f (f.length : Int) ((i + 1 : Nat) : Int)) r := by
          have gen : ∀ (d i : Nat), i + d = f.length → ∃ r, Ev (fun k => spec_l13Flow.l0 k w f (f.length : Int) (i : Int)) r := by
            intro d
            induction d with
            | zero =>
              intro i hi
              refine ⟨true, Ev.succ ?_⟩
              simp only [spec_l13Flow.l0]
              exact Ev.neg (by omega) (Ev.now _)
            | succ d ih =>
              intro i hi
              obtain ⟨r, hr2⟩ := ih (i + 1) (by omega)
              exact ⟨_, inner i r (by omega) hr2⟩
          exact gen (f.length - (i + 1)) (i + 1) (by omega)
        obtain ⟨r, hE⟩ := hex
        have := inner i r hi hE
        unfold hallOk at hp
        refine Ev.to this ?_
        cases q1 : allTo (fitsAt w f i) f.length with
        | false => simp
        | true =>
          rw [q1, Bool.true_and] at hp
          rw [if_pos rfl, hp, if_neg (by simp)]
      · intro _
        refine Ev.succ ?_
        simp only [spec_l13Flow.l0]
        exact Ev.neg (by omega) (Ev.now _)
    · refine Ev.pos (by simpa using fun z => c (by omega)) (Ev.to (Ev.now _) ?_)
      unfold netFlowOk
      rw [decide_eq_false c]; simp
  · refine Ev.succ ?_
    simp only [spec_l13Flow.j0]
    refine Ev.pos (by first | rfl | trivial) (Ev.to (Ev.now _) ?_)
    unfold netFlowOk
    rw [Bool.eq_false_iff.mpr hr]; rfl

def nextFF (w f : List (List Int)) : List Int × Bool × Bool := if netOk w = true ∧ netFlowOk w f = true then ((netWay (roomN w f) w.length).map (fun y : Nat => (y : Int)), decide (netWay (roomN w f) w.length ≠ []), true) else ([], false, false)

theorem spec_NextWay_ev (w f : List (List Int)) (hw : w.length ≤ 1048576) (hwg : ∀ r ∈ w, r.length ≤ 1048576) (h : f.length ≤ 1048576) (hg : ∀ r ∈ f, r.length ≤ 1048576) : Ev (fun k => spec_NextWay.f k w f) (nextFF w f) := by
  unfold spec_NextWay.f nextFF
  refine Ev.bind (spec_GoodNet_ev w hw hwg) (Ev.ite (fun hk => ?_) (fun hk => Ev.to (Ev.now _) (by rw [if_neg (fun z => hk z.1)])))
  refine Ev.bind (spec_l13Flow_ev hk f h hg) (Ev.ite (fun hf => ?_) (fun hf => Ev.to (Ev.now _) (by rw [if_neg (fun z => hf z.2)])))
  obtain ⟨h1, sqw, bdw⟩ := netOk_rows hk
  obtain ⟨_, fl, _⟩ := netFlowOk_fl hf
  rw [if_pos ⟨hk, hf⟩]
  refine Ev.bind (spec_l13Way_ev sqw (fl_sq sqw fl) ⟨by omega, by omega⟩) (Ev.to (Ev.now _) ?_)
  congr 2
  apply Bool.eq_iff_iff.mpr
  simp only [decide_eq_true_eq, List.length_map]
  constructor
  · intro z e; rw [e] at z; simp at z
  · intro z; have := List.length_pos_iff.mpr z; omega

theorem spec_l13Own_ev (f : List (List Int)) (h : f.length ≤ 1048576) (hg : ∀ r ∈ f, r.length ≤ 1048576) : Ev (fun k => spec_l13Own.f k f) f := by
  unfold spec_l13Own.f
  have key := ev_up f.length (fun k i => spec_l13Own.l0 k (f.take i) f (f.length : Int) (i : Int)) f (fun _ => True) trivial ?_ ?_
  · simpa using key
  · intro _
    refine Ev.succ ?_
    simp only [spec_l13Own.l0]
    rw [List.take_length]
    exact Ev.neg (by omega) (Ev.now _)
  · intro i hi _ hn
    have e : f.getD i [] = f[i] := by rw [List.getD_eq_getElem?_getD, List.getElem?_eq_getElem hi]; rfl
    have := hg f[i] (List.getElem_mem hi)
    refine Ev.succ ?_
    simp only [spec_l13Own.l0]
    rw [rdL_getD, e, w64 (x := (i : Int) + 1) (by omega) (by omega)]
    refine Ev.pos (by omega) (Ev.pos (by omega) (Ev.pos (by omega) (Ev.bind0 (a := []) rfl (Ev.pos (by simp; omega) (Ev.pos (by rw [List.length_take]; omega) ?_)))))
    rw [List.nil_append, ← List.take_succ_eq_append_getElem hi]
    exact hn trivial

theorem fl_rows {n : Nat} {w : Nat → Nat → Int} {f : List (List Int)} (h : IsFl n w f) : ∀ r ∈ f, r.length = n := fun r hr => by
  obtain ⟨i, hi, rfl⟩ := List.mem_iff_getElem.mp hr
  have := h.row i (by rw [← h.len]; exact hi)
  rw [List.getD_eq_getElem?_getD, List.getElem?_eq_getElem hi] at this
  exact this
theorem spec_PushWay_net {w f : List (List Int)} (hw : w.length ≤ 1048576) (hwg : ∀ r ∈ w, r.length ≤ 1048576) (hk : netOk w = true) (hf : netFlowOk w f = true) (hne : netWay (roomN w f) w.length ≠ []) :
    Ev (fun k => spec_PushWay.f k w f ((netWay (roomN w f) w.length).map fun y : Nat => (y : Int))) (pushW w f w.length, leastRoom (roomN w f) (netWay (roomN w f) w.length) 100 ((netWay (roomN w f) w.length).length - 1), true) := by
  obtain ⟨h1, sqw, bdw⟩ := netOk_rows hk
  obtain ⟨hl, fl, cons⟩ := netFlowOk_fl hf
  have rws := fl_rows fl
  obtain ⟨p, p2, p3⟩ := netWay_props _ w.length h1.1 hne
  have sqf := fl_sq sqw fl
  unfold spec_PushWay.f
  refine Ev.bind (spec_GoodNet_ev w hw hwg) (Ev.pos hk (Ev.bind (spec_l13Flow_ev hk f (by omega) (fun r hr => by rw [rws r hr]; omega)) (Ev.pos hf (Ev.neg (by rw [List.length_map]; omega) (Ev.pos (by rw [List.length_map]; omega) (Ev.pos ?_ (Ev.pos ?_ (Ev.pos ?_ ?_))))))))
  · have := wl_rd (netWay (roomN w f) w.length) 0 (by omega)
    rw [p.first] at this
    exact this
  · rw [List.length_map, w64 (by omega) (by omega)]; omega
  · rw [List.length_map, w64 (by omega) (by omega)]; omega
  · rw [List.length_map, w64 (x := ((netWay (roomN w f) w.length).length : Int) - 1) (by omega) (by omega), w64 (x := (w.length : Int) - 1) (by omega) (by omega), show ((netWay (roomN w f) w.length).length : Int) - 1 = (((netWay (roomN w f) w.length).length - 1 : Nat) : Int) by omega, wl_rd _ _ (by omega), p.last]
    refine Ev.succ ?_
    simp only [spec_PushWay.j0]
    refine Ev.neg (by simp; omega) ?_
    rw [List.length_map]
    have key := ev_up (netWay (roomN w f) w.length).length (fun k i => spec_PushWay.l0 k w f ((netWay (roomN w f) w.length).map fun y : Nat => (y : Int)) ((netWay (roomN w f) w.length).map fun y : Nat => (y : Int)) ((netWay (roomN w f) w.length).length : Int) (i : Int)) (pushW w f w.length, leastRoom (roomN w f) (netWay (roomN w f) w.length) 100 ((netWay (roomN w f) w.length).length - 1), true) (fun _ => True) trivial ?_ ?_
    · exact key
    · intro _
      refine Ev.succ ?_
      simp only [spec_PushWay.l0]
      exact Ev.neg (by omega) (Ev.bind (spec_l13Own_ev f (by omega) (fun r hr => by rw [rws r hr]; omega)) (Ev.bind (spec_l13Push_ev sqw fl p.lt p.nd p.room ⟨p2, by omega⟩) (Ev.now _)))
    · intro i hi _ hn
      have hn := hn trivial
      have hlt := p.lt i hi
      refine Ev.succ ?_
      simp only [spec_PushWay.l0]
      rw [wl_rd _ i hi, toNat_nat, List.length_map, w64 (x := (i : Int) + 1) (by omega) (by omega)]
      refine Ev.pos (by omega) (Ev.pos (by omega) (Ev.pos (by omega) (Ev.neg (by omega) (Ev.neg (by omega) (Ev.pos (by omega) (Ev.bind (spec_l1Has_ev _ _ (by rw [List.length_take, List.length_map]; omega)) (Ev.neg ?_ ?_)))))))
      · intro hd
        have hm := of_decide_eq_true hd
        obtain ⟨j, hj, e⟩ := List.mem_iff_getElem.mp hm
        rw [List.length_take, List.length_map] at hj
        rw [List.getElem_take, List.getElem_map] at e
        have := p.nd j i (by omega) hi (by
          rw [List.getD_eq_getElem?_getD, List.getElem?_eq_getElem (by omega)]
          show (netWay (roomN w f) w.length)[j] = _
          omega)
        omega
      · by_cases c : i = 0
        · exact Ev.neg (by omega) hn
        · have hr := p.room (i - 1) (by omega)
          rw [show i - 1 + 1 = i by omega] at hr
          refine Ev.pos (by omega) (Ev.pos (by rw [w64 (by omega) (by omega)]; omega) (Ev.pos (by rw [w64 (by omega) (by omega)]; omega) ?_))
          rw [w64 (x := (i : Int) - 1) (by omega) (by omega), show (i : Int) - 1 = ((i - 1 : Nat) : Int) by omega, wl_rd _ (i - 1) (by omega)]
          exact Ev.bind0 (spec_l13Room_eq sqw sqf _ _ (p.lt (i - 1) (by omega)) hlt) (Ev.neg (by omega) hn)

theorem cur_netFlow (l : List Int) (a s : Int) (hl : bytesOk l) (ha : 0 ≤ a ∧ a ≤ 4611686018427200000) :
    ∃ (n : Nat) (w f : List (List Int)) (a' s' : Int), Ev (fun k => spec_l1Cur_netFlow.f k l a s) (w, f, a', s') ∧ (1 ≤ n ∧ n ≤ 9) ∧ NetD n w ∧ f.length = n ∧ (∀ r ∈ f, r.length = n) ∧ a ≤ a' ∧ a' ≤ a + 20000 := by
  obtain ⟨n, w, a1, s1, e1, hn, hw, h3, h4⟩ := cur_net l a s hl (by omega)
  have hwg : ∀ r ∈ w, r.length ≤ 1048576 := fun r hr => by have := (hw.row r hr).1; omega
  have wl := hw.len
  -- the end
  have fin : ∀ (f : List (List Int)) (a s : Int), f.length = n → (∀ r ∈ f, r.length = n) → (0 ≤ a ∧ a ≤ 4611686018427300000) → ∃ (f' : List (List Int)) (a' s' : Int), Ev (fun k => spec_l1Cur_netFlow.j2 k w f l a s) (w, f', a', s') ∧ f'.length = n ∧ (∀ r ∈ f', r.length = n) ∧ a ≤ a' ∧ a' ≤ a + 10 := by
    intro f a s hf hg ha
    by_cases c : (f.length : Int) > 1
    · obtain ⟨b, a2, s2, e2, b1, b2⟩ := cur_one l a s 8 hl (by omega)
      cases b with
      | true =>
        obtain ⟨p, a3, s3, e3, p0, p1, p2, p3⟩ := cur_pick l a2 s2 3 hl (by omega)
        have r0 : rd_L2 f 0 = f.getD 0 [] := rdL_getD f 0
        have hf0 : 0 < f.length := by omega
        have e0 : f.getD 0 [] = f[0] := by rw [List.getD_eq_getElem?_getD, List.getElem?_eq_getElem hf0]; rfl
        have q1 := hg f[0] (List.getElem_mem hf0)
        refine ⟨f.set (0 : Int).toNat ((f.getD 0 []).set (1 : Int).toNat (wrap64 ((rd (f.getD 0 []) 1) + (wrap64 (p - 1))))), a3, s3, Ev.succ ?_, ?_, ?_, by omega, by omega⟩
        · simp only [spec_l1Cur_netFlow.j2]
          rw [r0]
          exact Ev.pos c (Ev.bind0 e2 (Ev.pos rfl (Ev.pos (by omega) (Ev.pos (by rw [e0]; omega) (Ev.bind0 e3 (Ev.now _))))))
        · simp; exact hf
        · intro r hr
          rcases List.mem_or_eq_of_mem_set hr with hr | hr
          · exact hg r hr
          · subst hr; rw [e0]; simp; exact q1
      | false =>
        refine ⟨f, a2, s2, Ev.succ ?_, hf, hg, by omega, by omega⟩
        simp only [spec_l1Cur_netFlow.j2]
        exact Ev.pos c (Ev.bind0 e2 (Ev.neg (by simp) (Ev.now _)))
    · refine ⟨f, a, s, Ev.succ ?_, hf, hg, by omega, by omega⟩
      simp only [spec_l1Cur_netFlow.j2]
      exact Ev.neg c (Ev.now _)
  have loop : ∀ (d : Nat), d ≤ 10 → ∀ (f : List (List Int)) (a s : Int), f.length = n → (∀ r ∈ f, r.length = n) → (0 ≤ a ∧ a ≤ 4611686018427300000) → ∃ (f' : List (List Int)) (a' s' : Int), Ev (fun k => spec_l1Cur_netFlow.l1 k w f (d : Int) l a s) (w, f', a', s') ∧ f'.length = n ∧ (∀ r ∈ f', r.length = n) ∧ a ≤ a' ∧ a' ≤ a + 10 := by
    intro d
    induction d with
    | zero =>
      intro _ f a s hf hg ha
      obtain ⟨f', a', s', hE, g1, g2, g3, g4⟩ := fin f a s hf hg ha
      refine ⟨f', a', s', Ev.succ ?_, g1, g2, g3, g4⟩
      simp only [spec_l1Cur_netFlow.l1]
      exact Ev.neg (by omega) hE
    | succ d ih =>
      intro hd f a s hf hg ha
      have nx := spec_NextWay_ev w f (by omega) hwg (by omega) (fun r hr => by rw [hg r hr]; omega)
      by_cases c : netOk w = true ∧ netFlowOk w f = true
      · by_cases e : netWay (roomN w f) w.length = []
        · obtain ⟨f', a', s', hE, g1, g2, g3, g4⟩ := fin f a s hf hg ha
          refine ⟨f', a', s', Ev.succ ?_, g1, g2, g3, g4⟩
          simp only [spec_l1Cur_netFlow.l1]
          refine Ev.pos (by omega) (Ev.bind nx ?_)
          unfold nextFF
          rw [if_pos c]
          exact Ev.pos rfl (Ev.neg (by simp [e]) hE)
        · obtain ⟨h1, sqw, bdw⟩ := netOk_rows c.1
          obtain ⟨_, fl, cons⟩ := netFlowOk_fl c.2
          obtain ⟨g1, g2, g3, g4⟩ := pushW_ok h1.1 fl cons e
          have gr := fl_rows g1
          rw [wl] at g1 gr
          obtain ⟨f', a', s', hE, k1, k2, k3, k4⟩ := ih (by omega) (pushW w f w.length) a s (by rw [wl]; exact g1.len) (by rw [wl]; exact gr) ha
          refine ⟨f', a', s', Ev.succ ?_, k1, k2, k3, k4⟩
          simp only [spec_l1Cur_netFlow.l1]
          rw [w64 (x := ((d + 1 : Nat) : Int) - 1) (by omega) (by omega), show ((d + 1 : Nat) : Int) - 1 = (d : Int) by omega]
          refine Ev.pos (by omega) (Ev.bind nx ?_)
          unfold nextFF
          rw [if_pos c]
          exact Ev.pos rfl (Ev.pos (by simp [e]) (Ev.bind (spec_PushWay_net (by omega) hwg c.1 c.2 e) hE))
      · obtain ⟨f', a', s', hE, g1, g2, g3, g4⟩ := fin f a s hf hg ha
        refine ⟨f', a', s', Ev.succ ?_, g1, g2, g3, g4⟩
        simp only [spec_l1Cur_netFlow.l1]
        refine Ev.pos (by omega) (Ev.bind nx ?_)
        unfold nextFF
        rw [if_neg c]
        exact Ev.neg (by simp) hE
  obtain ⟨p, a2, s2, e2, p0, p1, p2, p3⟩ := cur_pick l a1 s1 4 hl (by omega)
  obtain ⟨m, rfl⟩ := exists_nat_of_nonneg p0
  obtain ⟨f', a', s', hE, g1, g2, g3, g4⟩ := loop m (by omega) (List.replicate n (List.replicate n 0)) a2 s2 (by simp) (fun r hr => by rw [List.eq_of_mem_replicate hr]; simp) (by omega)
  refine ⟨n, w, f', a', s', ?_, hn, hw, g1, g2, by omega, by omega⟩
  unfold spec_l1Cur_netFlow.f
  refine Ev.bind e1 ?_
  dsimp only
  rw [wl]
  have key := ev_up n (fun k i => spec_l1Cur_netFlow.l0 k w (List.replicate i (List.replicate n 0)) (n : Int) (i : Int) l a1 s1) (w, f', a', s') (fun _ => True) trivial ?_ ?_
  · simpa using key
  · intro _
    refine Ev.succ ?_
    simp only [spec_l1Cur_netFlow.l0]
    exact Ev.neg (by omega) (Ev.bind0 e2 hE)
  · intro i hi _ hnx
    refine Ev.succ ?_
    simp only [spec_l1Cur_netFlow.l0]
    rw [wl, toNat_nat, w64 (x := (i : Int) + 1) (by omega) (by omega), ← List.replicate_succ']
    exact Ev.pos (by omega) (Ev.pos (by omega) (Ev.pos (by omega) (Ev.pos (by simp; omega) (hnx trivial))))

def flowVF (f : List (List Int)) : Int × Bool := if rowsOk f = true then (valAt (ent f) f.length 0, true) else (0, false)

theorem impl_FlowValue_ev (f : List (List Int)) (h : f.length ≤ 1048576) (hg : ∀ r ∈ f, r.length ≤ 1048576) : Ev (fun k => impl_FlowValue.f k f) (flowVF f) := by
  unfold impl_FlowValue.f flowVF
  refine Ev.bind (impl_areRows_ev f h hg) (Ev.ite (fun hk => ?_) (fun hk => by rw [if_neg hk]; exact Ev.now _))
  rw [if_pos hk]
  obtain ⟨h1, sq, _⟩ := rowsOk_sq hk
  exact Ev.bind (impl_value_ev sq (by omega) 0 (by omega)) (Ev.now _)

theorem spec_FlowValue_ev (f : List (List Int)) (h : f.length ≤ 1048576) (hg : ∀ r ∈ f, r.length ≤ 1048576) : Ev (fun k => spec_FlowValue.f k f) (flowVF f) := by
  unfold spec_FlowValue.f flowVF
  refine Ev.bind (spec_l13Rows_ev f h hg) (Ev.ite (fun hk => ?_) (fun hk => by rw [if_neg hk]; exact Ev.now _))
  rw [if_pos hk]
  obtain ⟨h1, sq, _⟩ := rowsOk_sq hk
  exact Ev.bind (spec_l13Value_ev sq ⟨by omega, by omega⟩) (Ev.now _)

theorem sideTo_mem (l : List (List Int)) (b : Nat) : ∀ i, (b : Int) ∈ sideTo l i ↔ b < i ∧ sideB l b = true
  | 0 => by simp [sideTo]
  | i + 1 => by
    simp only [sideTo]
    by_cases c : sideB l i = true
    · rw [if_pos c, List.mem_append, List.mem_singleton, sideTo_mem l b i]
      constructor
      · rintro (⟨h1, h2⟩ | h)
        · exact ⟨by omega, h2⟩
        · obtain rfl : b = i := by omega
          exact ⟨by omega, c⟩
      · rintro ⟨h1, h2⟩
        by_cases e : b = i
        · exact .inr (by omega)
        · exact .inl ⟨by omega, h2⟩
    · rw [if_neg c, sideTo_mem l b i]
      constructor
      · rintro ⟨h1, h2⟩; exact ⟨by omega, h2⟩
      · rintro ⟨h1, h2⟩
        by_cases e : b = i
        · subst e; exact absurd h2 c
        · exact ⟨by omega, h2⟩
theorem sideTo_rise (l : List (List Int)) : ∀ i : Nat, rising (sideTo l i) (i : Int) = true
  | 0 => rfl
  | i + 1 => by
    have ih := sideTo_rise l i
    simp only [sideTo]
    have up : rising (sideTo l i) ((i + 1 : Nat) : Int) = true := by
      refine (allTo_iff _ _).mpr fun j hj => ?_
      obtain ⟨a1, a2, a3⟩ := rise_at ih j hj
      unfold riseAt
      simp only [Bool.and_eq_true, Bool.or_eq_true, decide_eq_true_eq]
      refine ⟨⟨a1, by omega⟩, ?_⟩
      by_cases c : j = 0
      · exact .inl c
      · exact .inr (a3 (by omega))
    by_cases c : sideB l i = true
    · rw [if_pos c]
      refine (allTo_iff _ _).mpr fun j hj => ?_
      rw [List.length_append, List.length_singleton] at hj
      have rdl : ∀ t : Nat, t < (sideTo l i).length → rd (sideTo l i ++ [(i : Int)]) (t : Int) = rd (sideTo l i) (t : Int) := fun t ht => by
        rw [rd_nat _ t (by simp; omega), rd_nat _ t ht, List.getElem_append_left ht]
      unfold riseAt
      simp only [Bool.and_eq_true, Bool.or_eq_true, decide_eq_true_eq]
      by_cases d : j < (sideTo l i).length
      · obtain ⟨a1, a2, a3⟩ := rise_at ih j d
        rw [rdl j d]
        refine ⟨⟨a1, by omega⟩, ?_⟩
        by_cases e : j = 0
        · exact .inl e
        · rw [rdl (j - 1) (by omega)]
          exact .inr (a3 (by omega))
      · obtain rfl : j = (sideTo l i).length := by omega
        have e : rd (sideTo l i ++ [(i : Int)]) ((sideTo l i).length : Int) = (i : Int) := by
          rw [rd_nat _ _ (by simp)]; simp
        rw [e]
        refine ⟨⟨by omega, by omega⟩, ?_⟩
        by_cases e0 : (sideTo l i).length = 0
        · exact .inl e0
        · rw [rdl _ (by omega)]
          exact .inr (rise_at ih _ (by omega)).2.1
    · rw [if_neg c]; exact up
theorem cut_is_most {l : List (List Int)} (hk : netOk l = true) : cutWF l (sideTo l l.length) = (valAt (ent (mostF l l.length)) l.length 0, true) := by
  obtain ⟨h1, sq, bd⟩ := netOk_rows hk
  obtain ⟨fl, cons, nw⟩ := mostF_ok h1.1 bd
  obtain ⟨rk, cm, full⟩ := cameF_ok (roomN l (mostF l l.length)) l.length (by omega)
  have hr := sideTo_rise l l.length
  have m0 : ((0 : Nat) : Int) ∈ sideTo l l.length := (sideTo_mem l 0 _).mpr ⟨by omega, decide_eq_true (by rw [show ((0 : Nat) : Int) = 0 from rfl, cm.zero]; omega)⟩
  have ml : ¬ ((l.length - 1 : Nat) : Int) ∈ sideTo l l.length := fun hm => by
    have h2 := of_decide_eq_true ((sideTo_mem l (l.length - 1) _).mp hm).2
    rcases netWay_ok (roomN l (mostF l l.length)) l.length (by omega) with ⟨_, h3⟩ | ⟨h3, _⟩
    · omega
    · exact way_ne h3 nw
  have hc : cutOk l (sideTo l l.length) = true := by
    unfold cutOk
    rw [hk, hr]
    rw [show ((l.length : Int) - 1) = ((l.length - 1 : Nat) : Int) by omega]
    rw [decide_eq_false ml, decide_eq_true (show (0 : Int) ∈ sideTo l l.length from m0)]; rfl
  unfold cutWF
  rw [hc, if_pos rfl, cutTo_across hr]
  congr 1
  symm
  refine flow_eq_cut h1.1 (decide_eq_true m0) (decide_eq_false ml) cons fl.lo (fun a b ha hb hA hB => ?_)
  have hA2 := of_decide_eq_true ((sideTo_mem l a _).mp (of_decide_eq_true hA)).2
  by_cases c : 0 < roomN l (mostF l l.length) a b
  · have := full a ha hA2 (by simp) b hb c
    exact absurd ((sideTo_mem l b _).mpr ⟨hb, decide_eq_true this⟩) (of_decide_eq_false hB)
  · unfold roomN at c; omega
theorem most_le_cut {l : List (List Int)} {side : List Int} (hc : cutOk l side = true) : valAt (ent (mostF l l.length)) l.length 0 ≤ cutTo l side l.length side.length := by
  unfold cutOk at hc
  simp only [Bool.and_eq_true, Bool.not_eq_true', decide_eq_true_eq, decide_eq_false_iff_not] at hc
  obtain ⟨hk, hr, m0, ml⟩ := hc
  obtain ⟨h1, sq, bd⟩ := netOk_rows hk
  obtain ⟨fl, cons, nw⟩ := mostF_ok h1.1 bd
  rw [cutTo_across hr]
  refine flow_le_cut h1.1 (decide_eq_true m0) (decide_eq_false ?_) cons fl.lo
  rw [show ((l.length - 1 : Nat) : Int) = (l.length : Int) - 1 by omega]
  exact ml

theorem cuts_rest (l : List Int) (hl : bytesOk l) : Ev (fun k => laws_FnCuts.j1 k l) true := by
  obtain ⟨n, w, side, e1, hn, hw, hs⟩ := spec_DrawCutWidth_ev l hl
  have hwg : ∀ r ∈ w, r.length ≤ 1048576 := fun r hr => by have := (hw.row r hr).1; omega
  have wl := hw.len
  obtain ⟨n2, w2, f, a', s', e2, hn2, _, fl, fr, _⟩ := cur_netFlow l 0 0 hl (by omega)
  have hfg : ∀ r ∈ f, r.length ≤ 1048576 := fun r hr => by rw [fr r hr]; omega
  refine Ev.succ ?_
  simp only [laws_FnCuts.j1]
  refine Ev.bind e1 (Ev.bind (impl_CutWidth_ev w side (by omega) hwg (by omega)) (Ev.bind (spec_CutWidth_ev w side (by omega) hwg (by omega)) (Ev.bind (a := f) ?_ (Ev.bind (impl_FlowValue_ev f (by omega) hfg) (Ev.bind (spec_FlowValue_ev f (by omega) hfg) (Ev.neg (by simp) (Ev.pos (by first | trivial | rfl) (Ev.neg (by simp) (Ev.succ ?_)))))))))
  · unfold spec_DrawFlowValue.f
    exact Ev.bind e2 (Ev.now _)
  · simp only [laws_FnCuts.j2, bne_self_eq_false, Bool.false_eq_true, if_false]
    by_cases c : cutOk w side = true
    · have e : cutWF w side = (cutTo w side w.length side.length, true) := by unfold cutWF; rw [if_pos c]
      have hk : netOk w = true := by
        unfold cutOk at c
        simp only [Bool.and_eq_true] at c
        exact c.1
      have em : mostFF w = (mostF w w.length, valAt (ent (mostF w w.length)) w.length 0, true) := by unfold mostFF; rw [if_pos hk]
      rw [e]
      have hm := impl_MostFlow_ev w (by omega) hwg
      rw [em] at hm
      refine Ev.pos rfl (Ev.bind hm (Ev.pos rfl (Ev.to (Ev.now _) ?_)))
      rw [decide_eq_true (most_le_cut c)]
    · have e : cutWF w side = (0, false) := by unfold cutWF; rw [if_neg c]
      rw [e]
      exact Ev.neg (by simp) (Ev.now _)
theorem FnCuts : laws_FnCuts.Pure := by
  intro l0 l1 _ hl0 hw0 _ hl1 hw1
  have b0 := bytesOk_of l0 hw0
  have b1 := bytesOk_of l1 hw1
  refine Ev.rounds (g := fun k => laws_FnCuts.f k l0 l1) ?_
  unfold laws_FnCuts.f
  refine Ev.ite (fun _ => Ev.now _) fun hs => ?_
  obtain ⟨n, w, e1, hn, hw⟩ := spec_DrawCutOf_ev l0 b0
  have hwg : ∀ r ∈ w, r.length ≤ 1048576 := fun r hr => by have := (hw.row r hr).1; omega
  have wl := hw.len
  have hlen : (cutFF w).1.length ≤ 1048576 := by
    unfold cutFF
    split
    · have := sideTo_len w w.length
      dsimp only; omega
    · simp
  refine Ev.bind e1 (Ev.bind (impl_CutOf_ev w (by omega) hwg) (Ev.bind (spec_CutOf_ev w (by omega) hwg) (Ev.neg (by simp) (Ev.bind (laws_same_ev _ (Nat.le_trans hlen (by decide))) (Ev.succ ?_)))))
  simp only [laws_FnCuts.j0, Bool.not_true, Bool.false_eq_true, if_false]
  by_cases hk : netOk w = true
  · have e : cutFF w = (sideTo w w.length, true) := by unfold cutFF; rw [if_pos hk]
    have em : mostFF w = (mostF w w.length, valAt (ent (mostF w w.length)) w.length 0, true) := by unfold mostFF; rw [if_pos hk]
    rw [e]
    have hm := impl_MostFlow_ev w (by omega) hwg
    rw [em] at hm
    have hc := impl_CutWidth_ev w (sideTo w w.length) (by omega) hwg (by have := sideTo_len w w.length; omega)
    rw [cut_is_most hk] at hc
    exact Ev.pos rfl (Ev.bind hm (Ev.bind hc (Ev.pos rfl (Ev.pos rfl (Ev.pos rfl (cuts_rest l1 b1))))))
  · have e : cutFF w = ([], false) := by unfold cutFF; rw [if_neg hk]
    rw [e]
    exact Ev.neg (by simp) (cuts_rest l1 b1)
end Go.Proofs.Ytpagpbamdpllnaa.Pure
