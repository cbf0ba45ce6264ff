/- At every argument SlotsFor of the program answers as SlotsFor of the reference, before and after its answer is written over: no condition but the statement's own. -/
import Derived.Test.YtagkblgpaallbaaCFnExactSlotsFor1
import Derived.Test.YtagkblgpaallbaaCFnExactSlotsFor2
import Derived.Test.YtagkblgpaallbaaCFnExactSlotsFor0
import Derived.Test.YtagkblgpaallbaaCFnExactSlotsFor3
import Derived.Test.YtagkblgpaallbaaCFnExactSlotsFor4
set_option linter.unusedVariables false
set_option linter.unusedSimpArgs false
namespace Go.Proofs.Ytagkblgpaallbaa.Pure
open Go.RowKit Go.Proofs.Ytagkblgpaallbaa.Print Go.Proofs.YtagkblgpaallbaaW.PrintWords Go.Proofs.YtagkblgpaallbaaW.PrintLast Go.Proofs.YtagkblgpaallbaaW.PrintMore

def place (g : Int) : Nat → List Int → List Int → List Int
  | m + 1, s :: ss, out => place g m ss (out.set s.toNat g)
  | _, _, out => out
theorem place_zero (g : Int) (s out : List Int) : place g 0 s out = out := by cases s <;> rfl
theorem place_length (g : Int) (m : Nat) : ∀ s out : List Int, (place g m s out).length = out.length := by
  induction m with
  | zero => intro s out; rw [place_zero]
  | succ m ih =>
    intro s out
    cases s with
    | nil => rfl
    | cons a s => rw [place, ih, List.length_set]
def fillOut (counts : List Int) : List Int → List Int → List Int → List Int
  | [], _, out => out
  | g :: gs, slots, out => fillOut counts gs (slots.drop (rd counts g).toNat) (place g (rd counts g).toNat slots out)
def many (counts gs : List Int) : Nat := (gs.map fun g => (rd counts g).toNat).sum
theorem toNat_sum (l : List Int) (h : ∀ x ∈ l, 0 ≤ x) : (((l.map Int.toNat).sum : Nat) : Int) = l.sum := by
  induction l with
  | nil => rfl
  | cons a l ih =>
    have h1 := h a (by simp)
    have h2 := ih fun x hx => h x (by simp [hx])
    simp only [List.map_cons, List.sum_cons]; omega
theorem many_idx (counts : List Int) (lt : Int → Int → Bool) (h : ∀ x ∈ counts, 0 ≤ x) : ((many counts (isl lt (idx counts.length)) : Nat) : Int) = counts.sum := by
  rw [← toNat_sum counts h]
  have e : (idx counts.length).map (fun g => (rd counts g).toNat) = counts.map Int.toNat := by
    apply List.ext_getElem
    · simp [idx_length]
    · intro i h1 h2
      have hi : i < counts.length := by simpa using h2
      simp only [List.getElem_map]
      have : (idx counts.length)[i]'(by rw [idx_length]; exact hi) = (i : Int) := by simp [idx]
      rw [this, rd_nat _ _ hi]
  have := ((isl_perm lt (idx counts.length)).map fun g => (rd counts g).toNat).sum_nat
  rw [e] at this
  unfold many; rw [this]

theorem spec_place (S counts goods : List Int) (g : Int) (n : Int) (i : Int) (r : List Int) (m : Nat) : ∀ (at_ : Nat) (out : List Int), m ≤ 1048576 → at_ + m ≤ S.length → S.length ≤ 1048576 → (∀ s ∈ S, 0 ≤ s ∧ s < (out.length : Int)) →
    Ev (fun k => spec_l17Slots.l1 k counts S (place g m (S.drop at_) out) ((at_ + m : Nat) : Int) goods n (wrap64 (i + 1))) r → Ev (fun k => spec_l17Slots.l2 k counts S out (at_ : Int) g (m : Int) goods n i) r := by
  induction m with
  | zero =>
    intro at_ out _ _ _ _ hd
    refine Ev.succ ?_
    simp only [spec_l17Slots.l2]
    rw [place_zero] at hd
    exact Ev.neg (by omega) hd
  | succ m ih =>
    intro at_ out hm ha hS hs hd
    have hlt : at_ < S.length := by omega
    have hx := hs _ (List.getElem_mem hlt)
    refine Ev.succ ?_
    simp only [spec_l17Slots.l2]
    rw [rd_nat _ _ hlt]
    refine Ev.pos (by omega) (Ev.pos (by omega) (Ev.pos (by omega) (Ev.pos (by omega) (Ev.pos (by omega) ?_))))
    rw [w64 (x := ((m + 1 : Nat) : Int) - 1) (by omega) (by omega), w64 (x := (at_ : Int) + 1) (by omega) (by omega), show ((m + 1 : Nat) : Int) - 1 = (m : Int) by omega]
    refine ih (at_ + 1) (out.set S[at_].toNat g) (by omega) (by omega) hS (by rw [List.length_set]; exact hs) ?_
    rw [List.drop_eq_getElem_cons hlt, place] at hd
    rw [show at_ + 1 + m = at_ + (m + 1) by omega]
    exact hd
theorem spec_fill (S counts goods : List Int) (hc : ∀ x ∈ counts, 1 ≤ x ∧ x ≤ 10) (hg : ∀ g ∈ goods, 0 ≤ g ∧ g < (counts.length : Int)) (hgl : goods.length ≤ 1048576) (rest : List Int) : ∀ (i at_ : Nat) (out : List Int), goods.drop i = rest → i ≤ goods.length → at_ + many counts rest ≤ S.length → S.length ≤ 1048576 → (∀ s ∈ S, 0 ≤ s ∧ s < (out.length : Int)) →
    Ev (fun k => spec_l17Slots.l1 k counts S out (at_ : Int) goods (goods.length : Int) (i : Int)) (fillOut counts rest (S.drop at_) out) := by
  induction rest with
  | nil =>
    intro i at_ out hd hi _ _ _
    have : i = goods.length := by have := congrArg List.length hd; simp at this; omega
    refine Ev.succ ?_
    simp only [spec_l17Slots.l1]
    exact Ev.neg (by omega) (Ev.now _)
  | cons g rest ih =>
    intro i at_ out hd hi ha hS hs
    have hlt : i < goods.length := by
      rcases Nat.lt_or_ge i goods.length with h | h
      · exact h
      · rw [List.drop_eq_nil_of_le h] at hd; cases hd
    rw [List.drop_eq_getElem_cons hlt] at hd
    obtain ⟨h1, h2⟩ := List.cons.inj hd
    have hgm := hg _ (List.getElem_mem hlt)
    have hcm : 1 ≤ rd counts g ∧ rd counts g ≤ 10 := by
      rw [h1] at hgm
      obtain ⟨q, rfl⟩ := exists_nat_of_nonneg hgm.1
      rw [rd_nat _ _ (by omega)]; exact hc _ (List.getElem_mem _)
    have hmany : many counts (g :: rest) = (rd counts g).toNat + many counts rest := by simp [many]
    refine Ev.succ ?_
    simp only [spec_l17Slots.l1]
    rw [rd_nat _ _ hlt, h1]
    rw [h1] at hgm
    refine Ev.pos (by omega) (Ev.pos (by omega) (Ev.pos (by omega) (Ev.pos (by omega) (Ev.pos (by omega) ?_))))
    have hq : rd counts g = ((rd counts g).toNat : Int) := by omega
    have key := spec_place S counts goods g (goods.length : Int) (i : Int) (fillOut counts (g :: rest) (S.drop at_) out) (rd counts g).toNat at_ out (by omega) (by omega) hS hs (by
      rw [w64 (by omega) (by omega), fillOut, List.drop_drop]
      exact ih (i + 1) (at_ + (rd counts g).toNat) _ h2 (by omega) (by omega) hS (by rw [place_length]; exact hs))
    rw [← hq] at key
    exact key
def slotsOf (picks counts ways : List Int) : List Int := fillOut counts (isl (ltG picks counts) (idx picks.length)) (isl (fun a b => decide (rd ways a < rd ways b)) (idx ways.length)) (List.replicate ways.length 0)
def Picked (picks counts ways : List Int) : Prop := flowOk picks = true ∧ counts.length = picks.length ∧ allIn counts 1 10 = true ∧ counts.sum = (ways.length : Int) ∧ ways.length ≤ 10 ∧ allIn ways 0 1000 = true
instance (picks counts ways : List Int) : Decidable (Picked picks counts ways) := by unfold Picked; infer_instance
theorem rd_neg (l : List Int) (x : Int) (h0 : 0 ≤ x) : rd (l.map fun w => -w) x = - rd l x := by
  obtain ⟨n, rfl⟩ := exists_nat_of_nonneg h0
  rcases Nat.lt_or_ge n l.length with hn | hn
  · rw [rd_nat _ _ (by simpa using hn), rd_nat _ _ hn]; simp
  · simp [rd, hn]
theorem isl_congr_on {lt lt' : Int → Int → Bool} (l : List Int) (h : ∀ a ∈ l, ∀ b ∈ l, lt a b = lt' a b) : isl lt l = isl lt' l := by
  suffices hh : ∀ i, i ≤ l.length → isl lt (l.take i) = isl lt' (l.take i) by have := hh l.length (Nat.le_refl _); simpa using this
  intro i
  induction i with
  | zero => intro _; simp [isl]
  | succ i ih =>
    intro hi
    rw [isl_take_succ lt l i (by omega), isl_take_succ lt' l i (by omega), ih (by omega)]
    have hm : ∀ y ∈ isl lt' (l.take i), lt l[i] y = lt' l[i] y := fun y hy => h _ (List.getElem_mem _) _ (List.mem_of_mem_take ((isl_perm lt' _).mem_iff.mp hy))
    revert hm
    generalize isl lt' (l.take i) = s
    intro hm
    unfold ins
    have e1 : s.takeWhile (fun y => !lt l[i] y) = s.takeWhile (fun y => !lt' l[i] y) ∧ s.dropWhile (fun y => !lt l[i] y) = s.dropWhile (fun y => !lt' l[i] y) := by
      clear ih h
      induction s with
      | nil => simp
      | cons a s ih =>
        have h1 := hm a (by simp)
        have h2 := ih fun y hy => hm y (by simp [hy])
        simp only [List.takeWhile_cons, List.dropWhile_cons, h1, h2.1, h2.2, and_self]
    rw [e1.1, e1.2]
theorem spec_l17Slots_ev (picks counts ways : List Int) (h : Picked picks counts ways) : Ev (fun k => spec_l17Slots.f k picks counts ways) (slotsOf picks counts ways) := by
  obtain ⟨h1, h2, h3, h4, h5, h6⟩ := h
  have hp := (flowOk_iff picks).mp h1
  have hc := (allIn_iff _ _ _).mp h3
  have hw := (allIn_iff _ _ _).mp h6
  unfold spec_l17Slots.f
  refine ev_up ways.length (fun k i => spec_l17Slots.l0 k picks counts ways ((ways.take i).map fun w => -w) ways (ways.length : Int) (i : Int)) _ (fun _ => True) trivial ?_ ?_
  · intro _
    refine Ev.succ ?_
    simp only [spec_l17Slots.l0]
    refine Ev.neg (by omega) ?_
    rw [List.take_length]
    have hr := spec_l3Rank_ev (ways.map fun w => -w) (by simp; omega)
    rw [isl_congr_on (lt' := fun a b => decide (rd ways a < rd ways b)) _ (fun a ha b hb => by
      have ha' := (mem_idx _ _).mp ha
      have hb' := (mem_idx _ _).mp hb
      simp only [ltDown, rd_neg _ _ ha'.1, rd_neg _ _ hb'.1]
      exact decide_eq_decide.mpr (by omega)), List.length_map] at hr
    refine Ev.bind hr (Ev.pos (by omega) (Ev.pos (by rw [toNat_nat]; omega) (Ev.bind (spec_l17Goods_ev picks counts (by omega) h2 hp.2 hc) ?_)))
    rw [toNat_nat]
    have hgm := many_idx counts (ltG picks counts) (fun x hx => by have := hc x hx; omega)
    rw [h2] at hgm
    have key := spec_fill (isl (fun a b => decide (rd ways a < rd ways b)) (idx ways.length)) counts (isl (ltG picks counts) (idx picks.length)) hc (fun g hg => by have := isl_idx_mem _ _ hg; omega) (by rw [isl_idx_length]; omega) (isl (ltG picks counts) (idx picks.length)) 0 0 (List.replicate ways.length 0) (by simp) (by omega) (by rw [isl_idx_length]; omega) (by rw [isl_idx_length]; omega) (fun s hs => by have := isl_idx_mem _ _ hs; simp; omega)
    simpa [slotsOf] using key
  · intro i hi _ hn
    have hx := hw _ (List.getElem_mem hi)
    refine Ev.succ ?_
    simp only [spec_l17Slots.l0]
    refine Ev.pos (by omega) (Ev.pos (by omega) (Ev.pos (by omega) (Ev.pos (by simp; omega) ?_)))
    rw [rd_nat _ _ hi, w64 (x := - ways[i]) (by omega) (by omega), w64 (by omega) (by omega)]
    have hn' := hn trivial
    rw [List.take_succ_eq_append_getElem hi, List.map_append, List.map_cons, List.map_nil] at hn'
    exact hn'

theorem spec_l17All_ev (picks counts ways : List Int) (h : picks.length ≤ 1048576) (hc : counts.length ≤ 1048576) (hw : ways.length ≤ 1048576) : Ev (fun k => spec_l17All.f k picks counts ways) (decide (Picked picks counts ways)) := by
  unfold spec_l17All.f
  refine Ev.bind (spec_l4Flow_ev picks (by omega)) ?_
  refine Ev.ite (fun h1 => ?_) (fun h1 => Ev.to (Ev.now _) (decide_eq_false fun q => h1 q.1).symm)
  refine Ev.ite (fun h2 => ?_) (fun h2 => Ev.to (Ev.now _) (decide_eq_false fun q => h2 (by have := q.2.1; omega)).symm)
  have hp := (flowOk_iff picks).mp h1
  have hv : Ev (fun k => spec_l17Counts.f k counts (ways.length : Int)) (decide (allIn counts 1 10 = true ∧ counts.sum = (ways.length : Int) ∧ ways.length ≤ 10)) := by
    unfold spec_l17Counts.f
    refine Ev.bind0 (spec_l1In_eq _ _ _) (Ev.pos (by simp; omega) (Ev.bind (spec_l1All_ev counts 1 10 (by omega)) ?_))
    refine Ev.ite (fun h3 => ?_) (fun h3 => Ev.to (Ev.now _) (decide_eq_false fun q => h3 q.1).symm)
    refine Ev.bind (spec_l3Sum_ev counts 1 10 ((allIn_iff _ _ _).mp h3) (by omega) (by omega) hc) ?_
    refine Ev.ite (fun h4 => ?_) (fun h4 => Ev.to (Ev.now _) (decide_eq_false fun q => h4 q.2.1).symm)
    refine Ev.to (Ev.now _) ?_
    exact decide_eq_decide.mpr ⟨fun q => ⟨h3, h4, by omega⟩, fun q => by have := q.2.2; omega⟩
  refine Ev.bind hv ?_
  refine Ev.ite (fun h3 => ?_) (fun h3 => Ev.to (Ev.now _) (decide_eq_false fun q => h3 (decide_eq_true ⟨q.2.2.1, q.2.2.2.1, q.2.2.2.2.1⟩)).symm)
  have h3' := of_decide_eq_true h3
  refine Ev.bind (spec_l1All_ev ways 0 1000 (by omega)) ?_
  refine Ev.to (Ev.now _) ?_
  cases h6 : allIn ways 0 1000 with
  | true => exact (decide_eq_true ⟨h1, by omega, h3'.1, h3'.2.1, h3'.2.2, h6⟩).symm
  | false => exact (decide_eq_false fun q => by rw [q.2.2.2.2.2] at h6; cases h6).symm
theorem spec_SlotsFor_ev (picks counts ways : List Int) (h : picks.length ≤ 1048576) (hc : counts.length ≤ 1048576) (hw : ways.length ≤ 1048576) : Ev (fun k => spec_SlotsFor.f k picks counts ways) (if Picked picks counts ways then (slotsOf picks counts ways, true) else ([], false)) := by
  unfold spec_SlotsFor.f
  refine Ev.bind (spec_l17All_ev picks counts ways h hc hw) ?_
  refine Ev.ite (fun hh => ?_) (fun hh => ?_)
  · have hh := of_decide_eq_true hh
    rw [if_pos hh]; exact Ev.bind (spec_l17Slots_ev picks counts ways hh) (Ev.now _)
  · rw [if_neg (fun q => hh (decide_eq_true q))]; exact Ev.now _

theorem cmp_goods_ok (picks counts : List Int) (hl : counts.length = picks.length) (hp : ∀ x ∈ picks, 1 ≤ x ∧ x ≤ 30) (hc : ∀ x ∈ counts, 1 ≤ x ∧ x ≤ 10) (a b : Int) (ha : 0 ≤ a ∧ a < (picks.length : Int)) (hb : 0 ≤ b ∧ b < (picks.length : Int)) :
    ∃ t, impl_slotsFor_1.f a b picks counts = some t ∧ ltG picks counts a b = decide (t < 0) := by
  have bp : ∀ j : Int, 0 ≤ j → j < picks.length → 1 ≤ rd picks j ∧ rd picks j ≤ 30 := fun j h0 h1 => by
    obtain ⟨n, rfl⟩ := exists_nat_of_nonneg h0
    rw [rd_nat _ _ (by omega)]; exact hp _ (List.getElem_mem _)
  have bc : ∀ j : Int, 0 ≤ j → j < picks.length → 1 ≤ rd counts j ∧ rd counts j ≤ 10 := fun j h0 h1 => by
    obtain ⟨n, rfl⟩ := exists_nat_of_nonneg h0
    rw [rd_nat _ _ (by omega)]; exact hc _ (List.getElem_mem _)
  have q1 := bp a ha.1 ha.2
  have q2 := bc a ha.1 ha.2
  have q3 := bp b hb.1 hb.2
  have q4 := bc b hb.1 hb.2
  have m1 := mul_small (a := rd picks b) (b := rd counts a) (m := 30) (n := 10) ⟨by omega, by omega⟩ ⟨by omega, by omega⟩
  have m2 := mul_small (a := rd picks a) (b := rd counts b) (m := 30) (n := 10) ⟨by omega, by omega⟩ ⟨by omega, by omega⟩
  unfold impl_slotsFor_1.f
  rw [if_pos hb.1, if_pos hb.2, if_pos ha.1, if_pos (by omega), if_pos ha.2, if_pos (by omega), w64 (x := rd picks b * rd counts a) (by omega) (by omega), w64 (x := rd picks a * rd counts b) (by omega) (by omega), w64 (by omega) (by omega)]
  exact ⟨_, rfl, decide_eq_decide.mpr (by omega)⟩
theorem ltG_weak (picks counts : List Int) (hc : ∀ j : Int, 0 ≤ j → j < picks.length → 1 ≤ rd counts j) : Weak (ltG picks counts) (fun x => 0 ≤ x ∧ x < (picks.length : Int)) := by
  constructor
  · intro a b c ha hb hcc h1 h2
    simp only [ltG, decide_eq_false_iff_not, Int.not_lt] at h1 h2 ⊢
    have ca := hc a ha.1 ha.2
    have cb := hc b hb.1 hb.2
    have cc := hc c hcc.1 hcc.2
    have e1 : rd picks a * rd counts b * rd counts c ≤ rd picks b * rd counts a * rd counts c := Int.mul_le_mul_of_nonneg_right h1 (by omega)
    have e2 : rd picks b * rd counts c * rd counts a ≤ rd picks c * rd counts b * rd counts a := Int.mul_le_mul_of_nonneg_right h2 (by omega)
    refine Int.le_of_mul_le_mul_right (show rd picks a * rd counts c * rd counts b ≤ rd picks c * rd counts a * rd counts b from ?_) (by omega)
    have e3 : rd picks a * rd counts c * rd counts b = rd picks a * rd counts b * rd counts c := by rw [Int.mul_assoc, Int.mul_comm (rd counts c), ← Int.mul_assoc]
    have e4 : rd picks c * rd counts a * rd counts b = rd picks c * rd counts b * rd counts a := by rw [Int.mul_assoc, Int.mul_comm (rd counts a), ← Int.mul_assoc]
    have e5 : rd picks b * rd counts a * rd counts c = rd picks b * rd counts c * rd counts a := by rw [Int.mul_assoc, Int.mul_comm (rd counts a), ← Int.mul_assoc]
    rw [e5] at e1
    rw [e3, e4]; exact Int.le_trans e1 e2
  · intro a b _ _ h
    simp only [ltG, decide_eq_true_eq, decide_eq_false_iff_not, Int.not_lt] at h ⊢
    omega
theorem sortSlots1_ev (picks counts l : List Int) (hl : counts.length = picks.length) (hp : ∀ x ∈ picks, 1 ≤ x ∧ x ≤ 30) (hc : ∀ x ∈ counts, 1 ≤ x ∧ x ≤ 10) (hn : l.length < 20) (hm : ∀ y ∈ l, 0 ≤ y ∧ y < (picks.length : Int)) :
    Ev (fun k => sl2_SortStableFunc.f k l picks counts) (isl (ltG picks counts) l) := by
  have bc : ∀ j : Int, 0 ≤ j → j < picks.length → 1 ≤ rd counts j := fun j h0 h1 => by
    obtain ⟨n, rfl⟩ := exists_nat_of_nonneg h0
    rw [rd_nat _ _ (by omega)]; exact (hc _ (List.getElem_mem _)).1
  have hg : Inserts (fun a b => impl_slotsFor_1.f a b picks counts) l.length (fun k x i => sl4_insertionSortCmpFunc.l0 k x 0 (l.length : Int) i picks counts) (fun k x i j => sl4_insertionSortCmpFunc.l1 k x 0 (l.length : Int) i j picks counts) :=
    ⟨fun _ _ _ => rfl, fun _ _ _ _ => rfl⟩
  have hs := inserts_ev hg (ltG_weak picks counts bc) (fun a b ha hb => cmp_goods_ok picks counts hl hp hc a b ha hb) l rfl (by omega) hm
  unfold sl2_SortStableFunc.f sl6_stableCmpFunc.f
  refine Ev.bind (r := isl (ltG picks counts) l) ?_ (Ev.now _)
  refine Ev.succ ?_
  simp only [sl6_stableCmpFunc.l0]
  refine Ev.neg (by omega) (Ev.bind (by unfold sl4_insertionSortCmpFunc.f; rw [w64 (by omega) (by omega)]; exact hs) ?_)
  refine Ev.succ ?_
  simp only [sl6_stableCmpFunc.l1]
  exact Ev.neg (by omega) (Ev.now _)

theorem sortSlots2_ev (ways l : List Int) (hw : ∀ x ∈ ways, 0 ≤ x ∧ x ≤ 1000) (hn : l.length < 20) (hm : ∀ y ∈ l, 0 ≤ y ∧ y < (ways.length : Int)) :
    Ev (fun k => sl3_SortStableFunc.f k l ways) (isl (fun a b => decide (rd ways a < rd ways b)) l) := by
  have bw : ∀ j : Int, 0 ≤ j → j < ways.length → 0 ≤ rd ways j ∧ rd ways j ≤ 1000 := fun j h0 h1 => by
    obtain ⟨n, rfl⟩ := exists_nat_of_nonneg h0
    rw [rd_nat _ _ (by omega)]; exact hw _ (List.getElem_mem _)
  have hg : Inserts (fun a b => impl_slotsFor_2.f a b ways) l.length (fun k x i => sl5_insertionSortCmpFunc.l0 k x 0 (l.length : Int) i ways) (fun k x i j => sl5_insertionSortCmpFunc.l1 k x 0 (l.length : Int) i j ways) :=
    ⟨fun _ _ _ => rfl, fun _ _ _ _ => rfl⟩
  have hwk : Weak (fun a b => decide (rd ways a < rd ways b)) (fun x => 0 ≤ x ∧ x < (ways.length : Int)) := by
    constructor
    · intro a b c _ _ _ h1 h2; simp only [decide_eq_false_iff_not] at h1 h2 ⊢; omega
    · intro a b _ _ h1; simp only [decide_eq_true_eq, decide_eq_false_iff_not] at h1 ⊢; omega
  have hs := inserts_ev hg hwk (fun a b ha hb => by
    have q1 := bw a ha.1 ha.2
    have q2 := bw b hb.1 hb.2
    unfold impl_slotsFor_2.f
    rw [if_pos ha.1, if_pos ha.2, if_pos hb.1, if_pos hb.2, w64 (by omega) (by omega)]
    exact ⟨_, rfl, decide_eq_decide.mpr (by omega)⟩) l rfl (by omega) hm
  unfold sl3_SortStableFunc.f sl7_stableCmpFunc.f
  refine Ev.bind (r := isl (fun a b => decide (rd ways a < rd ways b)) l) ?_ (Ev.now _)
  refine Ev.succ ?_
  simp only [sl7_stableCmpFunc.l0]
  refine Ev.neg (by omega) (Ev.bind (by unfold sl5_insertionSortCmpFunc.f; rw [w64 (by omega) (by omega)]; exact hs) ?_)
  refine Ev.succ ?_
  simp only [sl7_stableCmpFunc.l1]
  exact Ev.neg (by omega) (Ev.now _)

theorem impl_place (counts goods : List Int) (g : Int) (n : Int) (i : Int) (r : List Int) (m : Nat) : ∀ (t : Int) (slots out : List Int), 0 ≤ t → t + (m : Int) = rd counts g → rd counts g ≤ 10 → m ≤ slots.length → slots.length ≤ 1048576 → (∀ s ∈ slots, 0 ≤ s ∧ s < (out.length : Int)) →
    Ev (fun k => impl_slotsFor.l2 k (slots.drop m) (place g m slots out) goods n (wrap64 (i + 1)) counts) r → Ev (fun k => impl_slotsFor.l3 k slots out g goods n i (rd counts g) t counts) r := by
  induction m with
  | zero =>
    intro t slots out _ ht _ _ _ _ hd
    refine Ev.succ ?_
    simp only [impl_slotsFor.l3]
    rw [place_zero, List.drop_zero] at hd
    exact Ev.neg (by omega) hd
  | succ m ih =>
    intro t slots out h0 ht h10 hm hS hs hd
    cases slots with
    | nil => simp at hm
    | cons s ss =>
      have hx := hs s (by simp)
      have hr : rd (s :: ss) 0 = s := by have := rd_nat (s :: ss) 0 (by simp); simpa using this
      simp only [List.length_cons] at hm hS
      refine Ev.succ ?_
      simp only [impl_slotsFor.l3]
      rw [hr]
      refine Ev.pos (by omega) (Ev.pos (by simp only [List.length_cons]; omega) (Ev.pos (by omega) (Ev.pos (by omega) (Ev.pos (by simp only [List.length_cons]; omega) ?_))))
      rw [w64 (x := t + 1) (by omega) (by omega), show ((1 : Int)).toNat = 1 from rfl, List.drop_succ_cons, List.drop_zero]
      refine ih (t + 1) ss (out.set s.toNat g) (by omega) (by omega) h10 (by omega) (by omega) (fun y hy => by rw [List.length_set]; exact hs y (by simp [hy])) ?_
      rw [place, List.drop_succ_cons] at hd
      exact hd
theorem impl_fill (counts goods : List Int) (hc : ∀ x ∈ counts, 1 ≤ x ∧ x ≤ 10) (hg : ∀ g ∈ goods, 0 ≤ g ∧ g < (counts.length : Int)) (hgl : goods.length ≤ 1048576) (rest : List Int) : ∀ (i : Nat) (slots out : List Int), goods.drop i = rest → i ≤ goods.length → many counts rest ≤ slots.length → slots.length ≤ 1048576 → (∀ s ∈ slots, 0 ≤ s ∧ s < (out.length : Int)) →
    Ev (fun k => impl_slotsFor.l2 k slots out goods (goods.length : Int) (i : Int) counts) (fillOut counts rest slots out) := by
  induction rest with
  | nil =>
    intro i slots out hd hi _ _ _
    have : i = goods.length := by have := congrArg List.length hd; simp at this; omega
    refine Ev.succ ?_
    simp only [impl_slotsFor.l2]
    exact Ev.neg (by omega) (Ev.now _)
  | cons g rest ih =>
    intro i slots out hd hi ha hS hs
    have hlt : i < goods.length := by
      rcases Nat.lt_or_ge i goods.length with h | h
      · exact h
      · rw [List.drop_eq_nil_of_le h] at hd; cases hd
    rw [List.drop_eq_getElem_cons hlt] at hd
    obtain ⟨h1, h2⟩ := List.cons.inj hd
    have hgm := hg _ (List.getElem_mem hlt)
    rw [h1] at hgm
    have hcm : 1 ≤ rd counts g ∧ rd counts g ≤ 10 := by
      obtain ⟨q, rfl⟩ := exists_nat_of_nonneg hgm.1
      rw [rd_nat _ _ (by omega)]; exact hc _ (List.getElem_mem _)
    have hmany : many counts (g :: rest) = (rd counts g).toNat + many counts rest := by simp [many]
    refine Ev.succ ?_
    simp only [impl_slotsFor.l2]
    rw [rd_nat _ _ hlt, h1]
    refine Ev.pos (by omega) (Ev.pos (by omega) (Ev.pos (by omega) (Ev.pos (by omega) (Ev.pos (by omega) ?_))))
    refine impl_place counts goods g (goods.length : Int) (i : Int) (fillOut counts (g :: rest) slots out) (rd counts g).toNat 0 slots out (by omega) (by omega) hcm.2 (by omega) hS hs ?_
    rw [w64 (by omega) (by omega), fillOut]
    exact ih (i + 1) _ _ h2 (by omega) (by rw [List.length_drop]; omega) (by rw [List.length_drop]; omega) (fun s hs' => by rw [place_length]; exact hs s (List.mem_of_mem_drop hs'))
theorem impl_slotsFor_ev (picks counts ways : List Int) (h : Picked picks counts ways) : Ev (fun k => impl_slotsFor.f k picks counts ways) (slotsOf picks counts ways) := by
  obtain ⟨h1, h2, h3, h4, h5, h6⟩ := h
  have hp := (flowOk_iff picks).mp h1
  have hc := (allIn_iff _ _ _).mp h3
  have hw := (allIn_iff _ _ _).mp h6
  unfold impl_slotsFor.f
  refine Ev.pos (by omega) (Ev.pos (by rw [toNat_nat]; omega) ?_)
  rw [toNat_nat]
  refine ev_up picks.length (fun k i => impl_slotsFor.l0 k (idx i) ([] : List Int) (List.replicate ways.length 0) (picks.length : Int) (i : Int) picks counts ways) _ (fun _ => True) trivial ?_ ?_
  · intro _
    refine Ev.succ ?_
    simp only [impl_slotsFor.l0]
    refine Ev.neg (by omega) ?_
    refine ev_up ways.length (fun k i => impl_slotsFor.l1 k (idx picks.length) (idx i) (List.replicate ways.length 0) (ways.length : Int) (i : Int) picks counts ways) _ (fun _ => True) trivial ?_ ?_
    · intro _
      refine Ev.succ ?_
      simp only [impl_slotsFor.l1]
      refine Ev.neg (by omega) (Ev.bind (sortSlots1_ev picks counts (idx picks.length) h2 hp.2 hc (by rw [idx_length]; omega) (fun y hy => (mem_idx _ _).mp hy)) (Ev.bind (sortSlots2_ev ways (idx ways.length) hw (by rw [idx_length]; omega) (fun y hy => (mem_idx _ _).mp hy)) ?_))
      have hgm := many_idx counts (ltG picks counts) (fun x hx => by have := hc x hx; omega)
      rw [h2] at hgm
      have key := impl_fill counts (isl (ltG picks counts) (idx picks.length)) hc (fun g hg => by have := isl_idx_mem _ _ hg; omega) (by rw [isl_idx_length]; omega) (isl (ltG picks counts) (idx picks.length)) 0 (isl (fun a b => decide (rd ways a < rd ways b)) (idx ways.length)) (List.replicate ways.length 0) (by simp) (by omega) (by rw [isl_idx_length]; omega) (by rw [isl_idx_length]; omega) (fun s hs => by have := isl_idx_mem _ _ hs; simp; omega)
      rw [isl_idx_length] at key
      rw [idx_length]
      exact key
    · intro i hi _ hn
      refine Ev.succ ?_
      simp only [impl_slotsFor.l1]
      refine Ev.pos (by omega) (Ev.pos (by rw [idx_length]; omega) ?_)
      rw [w64 (by omega) (by omega), ← idx_succ]
      exact hn trivial
  · intro i hi _ hn
    refine Ev.succ ?_
    simp only [impl_slotsFor.l0]
    refine Ev.pos (by omega) (Ev.pos (by rw [idx_length]; omega) ?_)
    rw [w64 (by omega) (by omega), ← idx_succ]
    exact hn trivial

theorem impl_arePicked_ev (picks counts ways : List Int) (h : picks.length ≤ 1048576) (hc : counts.length ≤ 1048576) (hw : ways.length ≤ 1048576) : Ev (fun k => impl_arePicked.f k picks counts ways) (decide (Picked picks counts ways)) := by
  unfold impl_arePicked.f
  refine Ev.bind (impl_isFlow_ev picks (by omega)) ?_
  refine Ev.ite (fun h1 => ?_) (fun h1 => Ev.to (Ev.now _) (decide_eq_false fun q => h1 q.1).symm)
  refine Ev.ite (fun h2 => ?_) (fun h2 => Ev.to (Ev.now _) (decide_eq_false fun q => h2 (by have := q.2.1; omega)).symm)
  have hp := (flowOk_iff picks).mp h1
  have hv : Ev (fun k => impl_areHoused.f k counts) (decide (allIn counts 1 10 = true ∧ counts.sum ≤ 10)) := by
    unfold impl_areHoused.f
    refine Ev.bind0 (impl_within_eq _ _ _) (Ev.pos (by simp; omega) (Ev.bind (impl_allWithin_ev counts 1 10 (by omega)) ?_))
    refine Ev.ite (fun h3 => ?_) (fun h3 => Ev.to (Ev.now _) (decide_eq_false fun q => h3 q.1).symm)
    refine Ev.bind (impl_sum_ev counts 1 10 ((allIn_iff _ _ _).mp h3) (by omega) (by omega) hc) ?_
    refine Ev.to (Ev.now _) ?_
    exact decide_eq_decide.mpr ⟨fun q => ⟨h3, q⟩, fun q => q.2⟩
  have hv2 : Ev (fun k => impl_areWays.f k counts ways) (decide (allIn counts 1 10 = true ∧ counts.sum = (ways.length : Int) ∧ ways.length ≤ 10 ∧ allIn ways 0 1000 = true)) := by
    unfold impl_areWays.f
    refine Ev.bind hv ?_
    refine Ev.ite (fun h3 => ?_) (fun h3 => Ev.to (Ev.now _) (decide_eq_false fun q => h3 (decide_eq_true ⟨q.1, by have := q.2.1; have := q.2.2.1; omega⟩)).symm)
    have h3' := of_decide_eq_true h3
    refine Ev.bind (impl_sum_ev counts 1 10 ((allIn_iff _ _ _).mp h3'.1) (by omega) (by omega) hc) ?_
    refine Ev.ite (fun h4 => ?_) (fun h4 => Ev.to (Ev.now _) (decide_eq_false fun q => h4 q.2.1.symm).symm)
    refine Ev.bind (impl_allWithin_ev ways 0 1000 (by omega)) ?_
    refine Ev.to (Ev.now _) ?_
    cases h6 : allIn ways 0 1000 with
    | true => exact (decide_eq_true ⟨h3'.1, h4.symm, by have := h3'.2; omega, rfl⟩).symm
    | false => exact (decide_eq_false fun q => by cases q.2.2.2).symm
  refine Ev.bind hv2 ?_
  refine Ev.to (Ev.now _) ?_
  exact decide_eq_decide.mpr ⟨fun q => ⟨h1, by omega, q.1, q.2.1, q.2.2.1, q.2.2.2⟩, fun q => ⟨q.2.2.1, q.2.2.2.1, q.2.2.2.2.1, q.2.2.2.2.2⟩⟩
theorem impl_SlotsFor_ev (picks counts ways : List Int) (h : picks.length ≤ 1048576) (hc : counts.length ≤ 1048576) (hw : ways.length ≤ 1048576) : Ev (fun k => impl_SlotsFor.f k picks counts ways) (if Picked picks counts ways then (slotsOf picks counts ways, true) else ([], false)) := by
  unfold impl_SlotsFor.f
  refine Ev.bind (impl_arePicked_ev picks counts ways h hc hw) ?_
  refine Ev.ite (fun hh => ?_) (fun hh => ?_)
  · have hh := of_decide_eq_true hh
    rw [if_pos hh]; exact Ev.bind (impl_slotsFor_ev picks counts ways hh) (Ev.now _)
  · rw [if_neg (fun q => hh (decide_eq_true q))]; exact Ev.now _
theorem fillOut_length (counts gs : List Int) : ∀ s out : List Int, (fillOut counts gs s out).length = out.length := by
  induction gs with
  | nil => intro s out; rfl
  | cons g gs ih => intro s out; rw [fillOut, ih, place_length]
theorem slotsFor_length (picks counts ways : List Int) : (if Picked picks counts ways then (slotsOf picks counts ways, true) else (([] : List Int), false)).1.length ≤ 10 := by
  split
  · rename_i h
    dsimp only; unfold slotsOf; rw [fillOut_length, List.length_replicate]; exact h.2.2.2.2.1
  · simp

end Go.Proofs.Ytagkblgpaallbaa.Pure
namespace Go.Proofs.Ytagkblgpaallbaa.Pure
open Go.RowKit Go.Proofs.Ytagkblgpaallbaa.Print Go.Proofs.YtagkblgpaallbaaW.PrintWords Go.Proofs.YtagkblgpaallbaaW.PrintLast Go.Proofs.YtagkblgpaallbaaW.PrintMore

theorem FnExactSlotsFor : laws_FnExactSlotsFor.Pure := by
  intro l0 l1 l2 _ _ _ _ _ _ _ _ _
  refine Ev.rounds (g := fun k => laws_FnExactSlotsFor.f k l0 l1 l2) ?_
  unfold laws_FnExactSlotsFor.f
  refine Ev.ite (fun _ => Ev.now _) fun h0 => Ev.ite (fun _ => Ev.now _) fun h1 => Ev.ite (fun _ => Ev.now _) fun h2 => ?_
  have t0 := laws_toIntS_ev l0 (by omega)
  have t1 := laws_toIntS_ev l1 (by omega)
  have t2 := laws_toIntS_ev l2 (by omega)
  have e0 := laws_eqIntS_ev l0 (by omega)
  have e1 := laws_eqIntS_ev l1 (by omega)
  have e2 := laws_eqIntS_ev l2 (by omega)
  have hI := impl_SlotsFor_ev l0 l1 l2 (by omega) (by omega) (by omega)
  have hS := spec_SlotsFor_ev l0 l1 l2 (by omega) (by omega) (by omega)
  have hlen := slotsFor_length l0 l1 l2
  revert hI hS hlen
  generalize (if Picked l0 l1 l2 then (slotsOf l0 l1 l2, true) else (([] : List Int), false)) = R
  obtain ⟨g, b⟩ := R
  intro hI hS hlen
  dsimp only at hlen
  have eg := laws_eqIntS_ev g (by omega)
  have mg := laws_markIntS_ev g 1 (by omega) (by omega)
  have hg := laws_heldIntS_ev g.length 1 (by omega) (by omega)
  have m0 := laws_markIntS_ev l0 1 (by omega) (by omega)
  have m1 := laws_markIntS_ev l1 (1 + (l0.length : Int)) (by omega) (by omega)
  have m2 := laws_markIntS_ev l2 (1 + (l0.length : Int) + (l1.length : Int)) (by omega) (by omega)
  refine Ev.bind t0 (Ev.bind t1 (Ev.bind t2 (Ev.bind hS (Ev.bind t0 (Ev.bind t1 (Ev.bind t2 (Ev.bind hI (Ev.bind eg (Ev.pos rfl ?_)))))))))
  refine Ev.succ ?_
  simp only [laws_FnExactSlotsFor.j0, bne_self_eq_false, Bool.false_eq_true, if_false]
  refine Ev.bind t0 (Ev.bind e0 (Ev.pos rfl (Ev.bind t1 (Ev.bind e1 (Ev.pos rfl (Ev.bind t2 (Ev.bind e2 (Ev.pos rfl (Ev.bind m0 (Ev.bind m1 (Ev.bind m2 (Ev.neg (by dsimp only; omega) (Ev.bind eg (Ev.pos rfl ?_))))))))))))))
  refine Ev.succ ?_
  simp only [laws_FnExactSlotsFor.j1, Bool.false_eq_true, if_false]
  refine Ev.bind mg (Ev.bind hg (Ev.neg (by omega) (Ev.pos rfl (Ev.bind t0 (Ev.bind t1 (Ev.bind t2 (Ev.bind hI (Ev.bind eg (Ev.pos rfl ?_)))))))))
  refine Ev.succ ?_
  simp only [laws_FnExactSlotsFor.j2, bne_self_eq_false, Bool.false_eq_true, if_false]
  exact Ev.bind hg (Ev.neg (by omega) (Ev.pos rfl (Ev.now _)))

end Go.Proofs.Ytagkblgpaallbaa.Pure
