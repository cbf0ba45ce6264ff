/- No order of goods costs less than that with the most used at the nearest. -/
import Derived.Test.YtneojimdhnhkeaaCFnRanks2
import Derived.Test.YtneojimdhnhkeaaCFnRanks0
import Derived.Test.YtneojimdhnhkeaaCFnRanks1
set_option linter.unusedVariables false
set_option linter.unusedSimpArgs false
namespace Go.Proofs.Ytneojimdhnhkeaa.Pure
open Go.RowKit Go.Proofs.Ytneojimdhnhkeaa.Print Go.Proofs.YtneojimdhnhkeaaW.PrintWords Go.Proofs.YtneojimdhnhkeaaW.PrintLast Go.Proofs.YtneojimdhnhkeaaW.PrintMore

def usedB (use way : List Int) : Bool := ((decide (use.length = way.length) && decide (use.length ≤ 10)) && allIn use 0 1000) && allIn way 0 1000
theorem used_rd {use way : List Int} (h : usedB use way = true) : use.length = way.length ∧ use.length ≤ 10 ∧ (∀ x ∈ use, 0 ≤ x ∧ x ≤ 1000) ∧ ∀ x ∈ way, 0 ≤ x ∧ x ≤ 1000 := by
  simp only [usedB, Bool.and_eq_true, decide_eq_true_eq] at h
  exact ⟨h.1.1.1, h.1.1.2, (allIn_iff _ _ _).mp h.1.2, (allIn_iff _ _ _).mp h.2⟩
def ordC (use way o : List Int) : Int := dot way (o.map (rd use))
theorem dot_snoc (a b : Int) : ∀ (x y : List Int), x.length = y.length → dot (x ++ [a]) (y ++ [b]) = dot x y + a * b
  | [], [], _ => by simp [dot]
  | [], _ :: _, h => by simp at h
  | _ :: _, [], h => by simp at h
  | p :: x, q :: y, h => by
    rw [List.cons_append, List.cons_append, dot, dot, dot_snoc a b x y (by simpa using h)]; omega
theorem dot_nil_right (x : List Int) : dot x [] = 0 := by cases x <;> rfl
theorem dot_mul_bounds : ∀ (x y : List Int), (∀ a ∈ x, 0 ≤ a ∧ a ≤ 1000) → (∀ a ∈ y, 0 ≤ a ∧ a ≤ 1000) → 0 ≤ dot x y ∧ dot x y ≤ 1000000 * x.length
  | [], y, _, _ => by simp [dot]
  | a :: x, [], _, _ => by rw [dot_nil_right]; omega
  | a :: x, b :: y, hx, hy => by
    have ih := dot_mul_bounds x y (fun z hz => hx z (by simp [hz])) (fun z hz => hy z (by simp [hz]))
    have h1 := hx a (by simp)
    have h2 := hy b (by simp)
    have : 0 ≤ a * b ∧ a * b ≤ 1000 * 1000 := ⟨Int.mul_nonneg h1.1 h2.1, Int.mul_le_mul h1.2 h2.2 h2.1 (by omega)⟩
    rw [dot, List.length_cons]; omega
theorem rd_bounds {l : List Int} {lo hi : Int} (h0 : lo ≤ 0 ∧ 0 ≤ hi) (h : ∀ x ∈ l, lo ≤ x ∧ x ≤ hi) (j : Int) : lo ≤ rd l j ∧ rd l j ≤ hi := by
  unfold rd
  rw [List.getD_eq_getElem?_getD]
  rcases Nat.lt_or_ge j.toNat l.length with q | q
  · rw [List.getElem?_eq_getElem q]; exact h _ (List.getElem_mem q)
  · rw [List.getElem?_eq_none q]; exact h0
theorem map_rd_bounds {use : List Int} (h : ∀ x ∈ use, 0 ≤ x ∧ x ≤ 1000) (o : List Int) : ∀ a ∈ o.map (rd use), 0 ≤ a ∧ a ≤ 1000 := fun a ha => by
  obtain ⟨j, _, rfl⟩ := List.mem_map.mp ha
  exact rd_bounds (by omega) h j
theorem dot_set : ∀ (w L : List Int) (i : Nat) (v : Int), w.length = L.length → i < L.length → dot w (L.set i v) = dot w L + rd w (i : Int) * (v - rd L (i : Int))
  | [], [], i, v, _, h => by simp at h
  | [], _ :: _, _, _, h, _ => by simp at h
  | _ :: _, [], _, _, h, _ => by simp at h
  | a :: w, b :: L, 0, v, h, _ => by
    have e1 : rd (a :: w) ((0 : Nat) : Int) = a := rd_nat _ 0 (by simp)
    have e2 : rd (b :: L) ((0 : Nat) : Int) = b := rd_nat _ 0 (by simp)
    rw [List.set_cons_zero, dot, dot, e1, e2, Int.mul_sub]; omega
  | a :: w, b :: L, i + 1, v, h, hi => by
    have hl : w.length = L.length := by simpa using h
    have hi' : i < L.length := by simpa using hi
    have e1 : rd (a :: w) ((i + 1 : Nat) : Int) = rd w (i : Int) := by rw [rd_nat _ _ (by simp; omega), rd_nat _ _ (by omega)]; rfl
    have e2 : rd (b :: L) ((i + 1 : Nat) : Int) = rd L (i : Int) := by rw [rd_nat _ _ (by simp; omega), rd_nat _ _ (by omega)]; rfl
    rw [List.set_cons_succ, dot, dot, dot_set w L i v hl hi', e1, e2]; omega
def swapO (o : List Int) (a b : Int) : List Int := (o.set a.toNat (rd o b)).set b.toNat (rd o a)
theorem swap_gain (use way o : List Int) (a b : Nat) (hl : way.length = o.length) (ha : a < o.length) (hb : b < o.length) :
    ordC use way o - ordC use way (swapO o a b) = (rd use (rd o a) - rd use (rd o b)) * (rd way a - rd way b) := by
  unfold ordC swapO
  rw [toNat_nat, toNat_nat, List.map_set, List.map_set, dot_set way _ b _ (by simp; omega) (by simp; omega), dot_set way _ a _ (by simp; omega) (by simp; omega)]
  have e1 : rd (o.map (rd use)) (a : Int) = rd use (rd o a) := by rw [rd_nat _ _ (by simp; omega), List.getElem_map, rd_nat o a ha]
  have e2 : rd ((o.map (rd use)).set a (rd use (rd o b))) (b : Int) = rd use (rd o b) := by
    rw [rd_nat _ _ (by simp; omega), List.getElem_set]
    split
    · rfl
    · rw [List.getElem_map, rd_nat o b hb]
  rw [e1, e2]
  generalize rd use (rd o a) = p
  generalize rd use (rd o b) = q
  generalize rd way a = u
  generalize rd way b = v
  rw [Int.sub_mul, Int.mul_sub, Int.mul_sub, Int.mul_sub, Int.mul_sub, Int.mul_comm p u, Int.mul_comm p v, Int.mul_comm q u, Int.mul_comm q v]
  omega
theorem swap_ord {o : List Int} {m : Int} (h : isOrd o m) (a b : Nat) (ha : a < o.length) (hb : b < o.length) : isOrd (swapO o a b) m := by
  have e : swapO o a b = (o.set a o[b]).set b o[a] := by unfold swapO; rw [toNat_nat, toNat_nat, rd_nat o a ha, rd_nat o b hb]
  have hp := set_swap_perm o a b ha hb
  rw [e]
  refine ⟨by rw [List.length_set, List.length_set]; exact h.1, ?_⟩
  rw [List.length_set, List.length_set]
  exact hp.trans h.2
def ltUp (way : List Int) (a b : Int) : Bool := decide (rd way a < rd way b)
def bestO (use way : List Int) : List Int := writeAll (isl (ltUp way) (idx way.length)) (isl (ltDown use) (idx use.length)) (List.replicate use.length 0)
theorem bestO_length (use way : List Int) : (bestO use way).length = use.length := by unfold bestO; rw [writeAll_length, List.length_replicate]
theorem best_ord {use way : List Int} (hl : use.length = way.length) : isOrd (bestO use way) (use.length : Int) ∧ ∀ o, isOrd o (use.length : Int) → ordC use way (bestO use way) ≤ ordC use way o := by
  obtain ⟨S, hS⟩ : ∃ S, S = isl (ltUp way) (idx way.length) := ⟨_, rfl⟩
  obtain ⟨G, hG⟩ : ∃ G, G = isl (ltDown use) (idx use.length) := ⟨_, rfl⟩
  have eL : bestO use way = writeAll S G (List.replicate use.length 0) := by unfold bestO; rw [hS, hG]
  have pS : S.Perm (idx way.length) := by rw [hS]; exact isl_perm _ _
  have nS : S.Nodup := by rw [hS]; exact isl_idx_nodup _ _
  have lS : S.length = way.length := by rw [hS]; exact isl_idx_length _ _
  have aS : (S.map (rd way)).Pairwise (fun x y => x ≤ y) := by rw [hS]; exact isl_map_asc way _ (Nat.le_refl _)
  have pG : G.Perm (idx use.length) := by rw [hG]; exact isl_perm _ _
  have lG : G.length = use.length := by rw [hG]; exact isl_idx_length _ _
  have dG : (G.map (rd use)).Pairwise (fun x y => y ≤ x) := by rw [hG]; exact isl_map_desc use _ (Nat.le_refl _)
  have rL : S.map (rd (bestO use way)) = G := by
    rw [eL]
    refine writeAll_read S G _ nS (fun s hs => ?_) (by omega)
    have := (mem_idx _ _).mp (pS.mem_iff.mp hs)
    rw [List.length_replicate]; omega
  have lB := bestO_length use way
  have pS' : ∀ {L : List Int}, L.length = use.length → L.Perm (S.map (rd L)) := fun {L} e => by
    have h1 := (pS.map (rd L)).symm
    rw [← hl, ← e, map_rd_idx] at h1
    exact h1
  refine ⟨⟨by rw [lB], ?_⟩, fun o ho => ?_⟩
  · rw [lB]
    have := pS' lB
    rw [rL] at this
    exact this.trans pG
  · have lo : o.length = use.length := by have := ho.1; omega
    have po := ho.2
    rw [lo] at po
    unfold ordC
    rw [dot_perm way _ S (by rw [List.length_map, lB, hl]) pS, dot_perm way (o.map _) S (by rw [List.length_map, lo, hl]) pS]
    have m1 : ∀ {L : List Int}, L.length = use.length → S.map (rd (L.map (rd use))) = (S.map (rd L)).map (rd use) := fun {L} e => by
      rw [List.map_map]
      refine List.map_congr_left fun x hx => ?_
      have := (mem_idx _ _).mp (pS.mem_iff.mp hx)
      obtain ⟨j, rfl⟩ := exists_nat_of_nonneg this.1
      rw [Function.comp_apply, rd_nat _ _ (by rw [List.length_map]; omega), List.getElem_map, rd_nat L j (by omega)]
    rw [m1 lB, m1 lo, rL]
    refine rearr _ _ _ aS dG ?_ (by rw [List.length_map, List.length_map, lG, lS, hl])
    exact List.Perm.map _ (pG.trans (po.symm.trans (pS' lo)))
def costSO (use way o : List Int) : Int × Bool := if usedB use way = true ∧ isOrd o (use.length : Int) then (ordC use way o, true) else (0, false)
def bestSO (use way : List Int) : List Int × Bool := if usedB use way = true then (bestO use way, true) else ([], false)
def gainSO (use way o : List Int) (a b : Int) : Int × Bool := if usedB use way = true ∧ isOrd o (use.length : Int) ∧ (0 ≤ a ∧ a < use.length) ∧ 0 ≤ b ∧ b < use.length then (ordC use way o - ordC use way (swapO o a b), true) else (0, false)
def pairSO (use way : List Int) : Int × Bool := if usedB use way = true then (dot use way, true) else (0, false)
theorem ordC_bounds {use way : List Int} (h : usedB use way = true) (o : List Int) : 0 ≤ ordC use way o ∧ ordC use way o ≤ 10000000 := by
  obtain ⟨h1, h2, h3, h4⟩ := used_rd h
  have := dot_mul_bounds way (o.map (rd use)) h4 (map_rd_bounds h3 o)
  unfold ordC; omega
theorem cost_loop {use way o : List Int} (h : usedB use way = true) (ho : isOrd o (use.length : Int)) (g : Nat → Int → Int → Option Int)
    (hg : ∀ k n i, g (k + 1) n i = if i < (o.length : Int) then (if 0 ≤ i then (if i < (o.length : Int) then (if 0 ≤ (rd o i) then (if (rd o i) < (use.length : Int) then (if i < (way.length : Int) then (g k (wrap64 (n + (wrap64 ((rd use (rd o i)) * (rd way i))))) (wrap64 (i + 1))) else (none)) else (none)) else (none)) else (none)) else (none)) else (some n)) :
    Ev (fun k => g k 0 0) (ordC use way o) := by
  obtain ⟨h1, h2, h3, h4⟩ := used_rd h
  have lo : o.length = use.length := by have := ho.1; omega
  have hm : ∀ x ∈ o, 0 ≤ x ∧ x < (o.length : Int) := ((perm_idx_iff o).mp ho.2).2
  have main := ev_up o.length (fun k i => g k (dot (way.take i) ((o.take i).map (rd use))) (i : Int)) (ordC use way o) (fun _ => True) trivial ?_ ?_
  · simpa [dot] using main
  · intro _
    refine Ev.succ ?_
    simp only [hg]
    refine Ev.neg (by omega) (Ev.to (Ev.now _) ?_)
    rw [List.take_of_length_le (by omega), List.take_length]; rfl
  · intro i hi _ hn
    have hw : i < way.length := by omega
    have hx := hm _ (List.getElem_mem hi)
    have hn := hn trivial
    rw [List.take_succ_eq_append_getElem hi, List.take_succ_eq_append_getElem hw, List.map_append, List.map_cons, List.map_nil, dot_snoc _ _ _ _ (by simp; omega)] at hn
    have b0 := dot_mul_bounds (way.take i) ((o.take i).map (rd use)) (fun z hz => h4 z (List.mem_of_mem_take hz)) (map_rd_bounds h3 _)
    rw [List.length_take] at b0
    have b1 := rd_bounds (by omega) h3 o[i]
    have b2 := h4 _ (List.getElem_mem hw)
    have b3 : 0 ≤ rd use o[i] * way[i] ∧ rd use o[i] * way[i] ≤ 1000 * 1000 := ⟨Int.mul_nonneg b1.1 b2.1, Int.mul_le_mul b1.2 b2.2 b2.1 (by omega)⟩
    rw [Int.mul_comm way[i]] at hn
    refine Ev.succ ?_
    simp only [hg]
    rw [rd_nat o i hi, rd_nat way i hw, w64 (x := rd use o[i] * way[i]) (by omega) (by omega), w64 (x := dot (way.take i) ((o.take i).map (rd use)) + rd use o[i] * way[i]) (by omega) (by omega), w64 (x := (i : Int) + 1) (by omega) (by omega)]
    exact Ev.pos (by omega) (Ev.pos (by omega) (Ev.pos (by omega) (Ev.pos hx.1 (Ev.pos (by omega) (Ev.pos (by omega) hn)))))
theorem place_loop {S G : List Int} (hG : S.length = G.length) (hS : S.length ≤ 1048576) (m : Nat) (hm : ∀ s ∈ S, 0 ≤ s ∧ s < (m : Int)) (g : Nat → List Int → Int → Option (List Int × Bool))
    (hg : ∀ k out i, g (k + 1) out i = if i < (S.length : Int) then (if 0 ≤ i then (if i < (S.length : Int) then (if i < (G.length : Int) then (if 0 ≤ (rd S i) then (if (rd S i) < (out.length : Int) then (g k (out.set ((rd S i) : Int).toNat (rd G i)) (wrap64 (i + 1))) else (none)) else (none)) else (none)) else (none)) else (none)) else (some (out, true))) :
    Ev (fun k => g k (List.replicate m 0) 0) (writeAll S G (List.replicate m 0), true) := by
  have gen : ∀ (d i : Nat) (out : List Int), i + d = S.length → out.length = m → Ev (fun k => g k out (i : Int)) (writeAll (S.drop i) (G.drop i) out, true) := by
    intro d
    induction d with
    | zero =>
      intro i out hi ho
      rw [List.drop_of_length_le (by omega), List.drop_of_length_le (by omega), writeAll_nil]
      refine Ev.succ ?_
      simp only [hg]
      exact Ev.neg (by omega) (Ev.now _)
    | succ d ih =>
      intro i out hi ho
      have h1 : i < S.length := by omega
      have h2 : i < G.length := by omega
      have hx := hm _ (List.getElem_mem h1)
      rw [List.drop_eq_getElem_cons h1, List.drop_eq_getElem_cons h2, writeAll]
      refine Ev.succ ?_
      simp only [hg]
      rw [rd_nat S i h1, rd_nat G i h2, w64 (by omega) (by omega)]
      exact Ev.pos (by omega) (Ev.pos (by omega) (Ev.pos (by omega) (Ev.pos (by omega) (Ev.pos hx.1 (Ev.pos (by omega) (ih (i + 1) _ (by omega) (by rw [List.length_set]; exact ho)))))))
  exact gen S.length 0 _ (by omega) (by simp)
theorem pair_loop {use way : List Int} (h : usedB use way = true) (g : Nat → Int → Int → Option (Int × Bool))
    (hg : ∀ k n i, g (k + 1) n i = if i < (use.length : Int) then (if 0 ≤ i then (if i < (use.length : Int) then (if i < (way.length : Int) then (g k (wrap64 (n + (wrap64 ((rd use i) * (rd way i))))) (wrap64 (i + 1))) else (none)) else (none)) else (none)) else (some (n, true))) :
    Ev (fun k => g k 0 0) (dot use way, true) := by
  obtain ⟨h1, h2, h3, h4⟩ := used_rd h
  have main := ev_up use.length (fun k i => g k (dot (use.take i) (way.take i)) (i : Int)) (dot use way, true) (fun _ => True) trivial ?_ ?_
  · simpa [dot] using main
  · intro _
    refine Ev.succ ?_
    simp only [hg]
    refine Ev.neg (by omega) (Ev.to (Ev.now _) ?_)
    rw [List.take_of_length_le (by omega), List.take_of_length_le (by omega)]
  · intro i hi _ hn
    have hw : i < way.length := by omega
    have hn := hn trivial
    rw [List.take_succ_eq_append_getElem hi, List.take_succ_eq_append_getElem hw, dot_snoc _ _ _ _ (by simp; omega)] at hn
    have b0 := dot_mul_bounds (use.take i) (way.take i) (fun z hz => h3 z (List.mem_of_mem_take hz)) (fun z hz => h4 z (List.mem_of_mem_take hz))
    rw [List.length_take] at b0
    have b1 := h3 _ (List.getElem_mem hi)
    have b2 := h4 _ (List.getElem_mem hw)
    have b3 : 0 ≤ use[i] * way[i] ∧ use[i] * way[i] ≤ 1000 * 1000 := ⟨Int.mul_nonneg b1.1 b2.1, Int.mul_le_mul b1.2 b2.2 b2.1 (by omega)⟩
    refine Ev.succ ?_
    simp only [hg]
    rw [rd_nat use i hi, rd_nat way i hw, w64 (x := use[i] * way[i]) (by omega) (by omega), w64 (x := dot (use.take i) (way.take i) + use[i] * way[i]) (by omega) (by omega), w64 (x := (i : Int) + 1) (by omega) (by omega)]
    exact Ev.pos (by omega) (Ev.pos (by omega) (Ev.pos (by omega) (Ev.pos (by omega) hn)))

theorem impl_areUsed_ev (use way : List Int) (hu : use.length ≤ 1048576) (hw : way.length ≤ 1048576) : Ev (fun k => impl_areUsed.f k use way) (usedB use way) := by
  unfold impl_areUsed.f
  refine Ev.ite (fun h1 => Ev.ite (fun h2 => Ev.bind (impl_allWithin_ev use 0 1000 (by omega)) (Ev.ite (fun h3 => Ev.bind (impl_allWithin_ev way 0 1000 (by omega)) (Ev.to (Ev.now _) ?_)) (fun h3 => Ev.to (Ev.now _) ?_))) (fun h2 => Ev.to (Ev.now _) ?_)) (fun h1 => Ev.to (Ev.now _) ?_)
  · simp [usedB, h3, show use.length = way.length by omega, show way.length ≤ 10 by omega]
  · simp [usedB, h3]
  · simp [usedB, show ¬ use.length = way.length by omega]
  · simp [usedB, show ¬ use.length ≤ 10 by omega]

theorem spec_l7Ways_ev (use way : List Int) (hu : use.length ≤ 1048576) (hw : way.length ≤ 1048576) : Ev (fun k => spec_l7Ways.f k use way) (usedB use way) := by
  unfold spec_l7Ways.f
  refine Ev.ite (fun h1 => Ev.ite (fun h2 => Ev.bind (spec_l1All_ev use 0 1000 (by omega)) (Ev.ite (fun h3 => Ev.bind (spec_l1All_ev way 0 1000 (by omega)) (Ev.to (Ev.now _) ?_)) (fun h3 => Ev.to (Ev.now _) ?_))) (fun h2 => Ev.to (Ev.now _) ?_)) (fun h1 => Ev.to (Ev.now _) ?_)
  · simp [usedB, h3, show use.length = way.length by omega, show way.length ≤ 10 by omega]
  · simp [usedB, h3]
  · simp [usedB, show ¬ use.length ≤ 10 by omega]
  · simp [usedB, show ¬ use.length = way.length by omega]

theorem impl_isOrdered_ev (use way o : List Int) (hu : use.length ≤ 1048576) (hw : way.length ≤ 1048576) (ho : o.length ≤ 1048576) : Ev (fun k => impl_isOrdered.f k use way o) (decide (usedB use way = true ∧ isOrd o (use.length : Int))) := by
  unfold impl_isOrdered.f
  refine Ev.bind (impl_areUsed_ev use way hu hw) (Ev.ite (fun h => Ev.bind0 (impl_isOrder_eq o _ ho) (Ev.to (Ev.now _) ?_)) (fun h => Ev.to (Ev.now _) (decide_eq_false fun q => h q.1).symm))
  exact decide_eq_decide.mpr ⟨fun q => ⟨h, q⟩, fun q => q.2⟩
theorem impl_orderCost_ev {use way o : List Int} (h : usedB use way = true) (ho : isOrd o (use.length : Int)) : Ev (fun k => impl_orderCost.f k use way o) (ordC use way o) := by
  unfold impl_orderCost.f
  exact cost_loop h ho (fun k n i => impl_orderCost.l0 k use way n o (o.length : Int) i) (fun _ _ _ => rfl)
theorem impl_OrderCost_ev (use way o : List Int) (hu : use.length ≤ 1048576) (hw : way.length ≤ 1048576) (ho : o.length ≤ 1048576) : Ev (fun k => impl_OrderCost.f k use way o) (costSO use way o) := by
  unfold impl_OrderCost.f costSO
  refine Ev.bind (impl_isOrdered_ev use way o hu hw ho) (Ev.ite (fun h => ?_) (fun h => ?_))
  · have h := of_decide_eq_true h
    rw [if_pos h]; exact Ev.bind (impl_orderCost_ev h.1 h.2) (Ev.now _)
  · rw [if_neg (fun q => h (decide_eq_true q))]; exact Ev.now _

theorem spec_l7Cost_ev {use way o : List Int} (h : usedB use way = true) (ho : isOrd o (use.length : Int)) : Ev (fun k => spec_l7Cost.f k use way o) (ordC use way o) := by
  unfold spec_l7Cost.f
  exact cost_loop h ho (fun k n i => spec_l7Cost.l0 k use way n o (o.length : Int) i) (fun _ _ _ => rfl)
theorem spec_OrderCost_ev (use way o : List Int) (hu : use.length ≤ 1048576) (hw : way.length ≤ 1048576) (ho : o.length ≤ 1048576) : Ev (fun k => spec_OrderCost.f k use way o) (costSO use way o) := by
  unfold spec_OrderCost.f costSO
  refine Ev.bind (spec_l7Ways_ev use way hu hw) (Ev.ite (fun h => Ev.bind (spec_l7Order_ev o _ ho) (Ev.ite (fun h2 => ?_) (fun h2 => ?_))) (fun h => ?_))
  · have h2 := of_decide_eq_true h2
    rw [if_pos ⟨h, h2⟩]; exact Ev.bind (spec_l7Cost_ev h h2) (Ev.now _)
  · rw [if_neg (fun q => h2 (decide_eq_true q.2))]; exact Ev.now _
  · rw [if_neg (fun q => h q.1)]; exact Ev.now _

theorem clone_eq (l : List Int) (h : l.length ≤ 1048576) : slices_Clone_int_int.f l = some l := by
  unfold slices_Clone_int_int.f
  rw [Option.bind_some, if_pos (by simp; omega)]; rfl
theorem sorted_rank (v : List Int) (n : Nat) : srt.sorted (isl (ltDown v) (idx n)) = idx n := by
  have hp : (srt.sorted (isl (ltDown v) (idx n))).Perm (isl (ltDown v) (idx n)) := List.mergeSort_perm _ _
  have hs : (srt.sorted (isl (ltDown v) (idx n))).Pairwise (fun x y => x ≤ y) := by
    have := List.pairwise_mergeSort (le := fun x y : Int => decide (x ≤ y)) (fun a b c h1 h2 => by simp only [decide_eq_true_eq] at h1 h2 ⊢; omega) (fun a b => by simp only [Bool.or_eq_true, decide_eq_true_eq]; omega) (isl (ltDown v) (idx n))
    exact this.imp (fun h => by simpa using h)
  exact sorted_perm_eq hs (idx_asc _) (hp.trans (isl_perm _ _))
theorem sortWay_ev (way l : List Int) (hw : ∀ x ∈ way, 0 ≤ x ∧ x ≤ 1000) (hn : l.length < 20) (hm : ∀ y ∈ l, 0 ≤ y ∧ y < (way.length : Int)) :
    Ev (fun k => sl2_SortStableFunc.f k l way) (isl (ltUp way) l) := by
  have bw : ∀ j : Int, 0 ≤ rd way j ∧ rd way j ≤ 1000 := rd_bounds (by omega) hw
  have hg : Inserts (fun a b => impl_OrderFor_1.f a b way) l.length (fun k x i => sl4_insertionSortCmpFunc.l0 k x 0 (l.length : Int) i way) (fun k x i j => sl4_insertionSortCmpFunc.l1 k x 0 (l.length : Int) i j way) :=
    ⟨fun _ _ _ => rfl, fun _ _ _ _ => rfl⟩
  have hwk : Weak (ltUp way) (fun x => 0 ≤ x ∧ x < (way.length : Int)) := by
    constructor
    · intro a b c _ _ _ h1 h2; simp only [ltUp, decide_eq_false_iff_not] at h1 h2 ⊢; omega
    · intro a b _ _ h1; simp only [ltUp, decide_eq_true_eq, decide_eq_false_iff_not] at h1 ⊢; omega
  have hs := inserts_ev hg hwk (fun a b ha hb => by
    have q1 := bw a
    have q2 := bw b
    unfold impl_OrderFor_1.f
    rw [if_pos ha.1, if_pos ha.2, if_pos hb.1, if_pos hb.2, w64 (by omega) (by omega)]
    exact ⟨_, rfl, decide_eq_decide.mpr (by omega)⟩) l rfl (by omega) hm
  unfold sl2_SortStableFunc.f sl6_stableCmpFunc.f
  refine Ev.bind (r := isl (ltUp way) l) ?_ (Ev.now _)
  refine Ev.succ ?_
  simp only [sl6_stableCmpFunc.l0]
  refine Ev.neg (by omega) (Ev.bind (by unfold sl4_insertionSortCmpFunc.f; rw [w64 (by omega) (by omega)]; exact hs) ?_)
  refine Ev.succ ?_
  simp only [sl6_stableCmpFunc.l1]
  exact Ev.neg (by omega) (Ev.now _)
theorem impl_OrderFor_ev (use way : List Int) (hu : use.length ≤ 1048576) (hw : way.length ≤ 1048576) : Ev (fun k => impl_OrderFor.f k use way) (bestSO use way) := by
  unfold impl_OrderFor.f bestSO
  refine Ev.bind (impl_areUsed_ev use way hu hw) (Ev.ite (fun h => ?_) (fun h => ?_))
  · obtain ⟨h1, h2, h3, h4⟩ := used_rd h
    have hr := impl_rank_ev use (fun x hx => by have := h3 x hx; omega) (by omega)
    have hl : (isl (ltDown use) (idx use.length)).length = use.length := isl_idx_length _ _
    rw [if_pos h]
    refine Ev.bind hr (Ev.bind hr (Ev.bind0 (clone_eq _ (by omega)) (Ev.pos (by omega) (Ev.pos (by omega) (Ev.bind0 (a := idx use.length) ?_ (Ev.bind (sortWay_ev way (idx use.length) h4 (by rw [idx_length]; omega) (fun y hy => by rw [← h1]; exact (mem_idx _ _).mp hy)) ?_))))))
    · unfold slices_Sort_int_int.f; rw [if_pos (by omega), sorted_rank]
    · unfold bestO
      rw [toNat_nat, hl, ← h1]
      have hS : (isl (ltUp way) (idx use.length)).length = use.length := isl_idx_length _ _
      refine place_loop (by omega) (by omega) use.length (fun s hs => isl_idx_mem _ _ hs) (fun k out i => impl_OrderFor.l0 k (isl (ltDown use) (idx use.length)) out (isl (ltUp way) (idx use.length)) (use.length : Int) i) (fun k out i => ?_)
      simp only [impl_OrderFor.l0, hS]
  · rw [if_neg h]; exact Ev.now _

theorem spec_OrderFor_ev (use way : List Int) (hu : use.length ≤ 1048576) (hw : way.length ≤ 1048576) : Ev (fun k => spec_OrderFor.f k use way) (bestSO use way) := by
  unfold spec_OrderFor.f bestSO
  refine Ev.bind (spec_l7Ways_ev use way hu hw) (Ev.ite (fun h => ?_) (fun h => ?_))
  · obtain ⟨h1, h2, h3, h4⟩ := used_rd h
    rw [if_pos h]
    have fin : Ev (fun k => spec_OrderFor.l0 k use (way.map fun w => -w) way (way.length : Int) (way.length : Int)) (bestO use way, true) := by
      refine Ev.succ ?_
      simp only [spec_OrderFor.l0]
      have hl : (way.map fun w => -w).length = way.length := List.length_map _
      have e : isl (ltDown (way.map fun w => -w)) (idx (way.map fun w => -w).length) = isl (ltUp way) (idx way.length) := by
        rw [hl]
        refine isl_congr_on _ fun a ha b hb => ?_
        have ha' := (mem_idx _ _).mp ha
        have hb' := (mem_idx _ _).mp hb
        simp only [ltDown, ltUp, rd_neg _ _ ha'.1, rd_neg _ _ hb'.1]
        exact decide_eq_decide.mpr (by omega)
      have hr := spec_l3Rank_ev (way.map fun w => -w) (by omega)
      rw [e] at hr
      refine Ev.neg (by omega) (Ev.bind (spec_l3Rank_ev use hu) (Ev.pos (by omega) (Ev.pos (by omega) (Ev.bind hr ?_))))
      unfold bestO
      rw [toNat_nat]
      have hS : (isl (ltUp way) (idx way.length)).length = way.length := isl_idx_length _ _
      have hG : (isl (ltDown use) (idx use.length)).length = use.length := isl_idx_length _ _
      exact place_loop (by omega) (by omega) use.length (fun s hs => by have := isl_idx_mem _ _ hs; omega) (fun k out i => spec_OrderFor.l1 k (isl (ltDown use) (idx use.length)) out (isl (ltUp way) (idx way.length)) ((isl (ltUp way) (idx way.length)).length : Int) i) (fun k out i => rfl)
    have main := ev_up way.length (fun k i => spec_OrderFor.l0 k use ((way.take i).map fun w => -w) way (way.length : Int) (i : Int)) (bestO use way, true) (fun _ => True) trivial ?_ ?_
    · simpa using main
    · intro _; simpa using fin
    · intro i hi _ hn
      have hn := hn trivial
      rw [List.take_succ_eq_append_getElem hi, List.map_append, List.map_cons, List.map_nil] at hn
      have hx := h4 _ (List.getElem_mem hi)
      refine Ev.succ ?_
      simp only [spec_OrderFor.l0]
      rw [rd_nat way i hi, w64 (x := -way[i]) (by omega) (by omega), w64 (x := (i : Int) + 1) (by omega) (by omega)]
      exact Ev.pos (by omega) (Ev.pos (by omega) (Ev.pos (by omega) (Ev.pos (by simp; omega) hn)))
  · rw [if_neg h]; exact Ev.now _

theorem impl_SwapGain_ev (use way o : List Int) (a b : Int) (hu : use.length ≤ 1048576) (hw : way.length ≤ 1048576) (ho : o.length ≤ 1048576) : Ev (fun k => impl_SwapGain.f k use way o a b) (gainSO use way o a b) := by
  have no : Ev (fun k => impl_SwapGain.j0 k use way o a b true) (0, false) := Ev.succ (by simp only [impl_SwapGain.j0, if_true]; exact Ev.now _)
  unfold impl_SwapGain.f gainSO
  refine Ev.bind (impl_isOrdered_ev use way o hu hw ho) (Ev.ite (fun h => ?_) (fun h => by rw [if_neg (fun q => h (decide_eq_true ⟨q.1, q.2.1⟩))]; exact no))
  have h := of_decide_eq_true h
  have lo : o.length = use.length := by have := h.2.1; omega
  refine Ev.bind (impl_allWithin_ev [a, b] 0 (wrap64 ((o.length : Int) - 1)) (by simp)) ?_
  rw [w64 (by omega) (by omega)]
  by_cases hab : (0 ≤ a ∧ a < use.length) ∧ 0 ≤ b ∧ b < use.length
  · have e : allIn [a, b] 0 ((o.length : Int) - 1) = true := (allIn_iff _ _ _).mpr (fun x hx => by
      simp only [List.mem_cons, List.not_mem_nil, or_false] at hx
      omega)
    rw [e, if_pos ⟨h.1, h.2, hab⟩]
    obtain ⟨i, rfl⟩ := exists_nat_of_nonneg hab.1.1
    obtain ⟨j, rfl⟩ := exists_nat_of_nonneg hab.2.1
    have b1 := ordC_bounds h.1 o
    have b2 := ordC_bounds h.1 (swapO o i j)
    refine Ev.succ ?_
    simp only [impl_SwapGain.j0, Bool.not_true, Bool.false_eq_true, if_false]
    refine Ev.bind0 (clone_eq o ho) (Ev.pos (by omega) (Ev.pos (by omega) (Ev.pos (by omega) (Ev.pos (by omega) (Ev.bind (impl_orderCost_ev h.1 h.2) (Ev.bind (impl_orderCost_ev (o := swapO o i j) h.1 (swap_ord h.2 i j (by omega) (by omega))) ?_))))))
    rw [w64 (by omega) (by omega)]; exact Ev.now _
  · have e : allIn [a, b] 0 ((o.length : Int) - 1) = false := by
      rw [Bool.eq_false_iff]; intro q
      have q := (allIn_iff _ _ _).mp q
      have q1 := q a (by simp)
      have q2 := q b (by simp)
      exact hab (by omega)
    rw [e, if_neg (fun q => hab q.2.2)]; exact no

theorem spec_SwapGain_ev (use way o : List Int) (a b : Int) (hu : use.length ≤ 1048576) (hw : way.length ≤ 1048576) (ho : o.length ≤ 1048576) : Ev (fun k => spec_SwapGain.f k use way o a b) (gainSO use way o a b) := by
  have no : Ev (fun k => spec_SwapGain.j0 k use way o a b true) (0, false) := Ev.succ (by simp only [spec_SwapGain.j0, if_true]; exact Ev.now _)
  unfold spec_SwapGain.f gainSO
  refine Ev.bind (spec_l7Ways_ev use way hu hw) (Ev.ite (fun h => Ev.bind (spec_l7Order_ev o _ ho) (Ev.ite (fun h2 => ?_) (fun h2 => by rw [if_neg (fun q => h2 (decide_eq_true q.2.1))]; exact no))) (fun h => by rw [if_neg (fun q => h q.1)]; exact no))
  have h2 := of_decide_eq_true h2
  have lo : o.length = use.length := by have := h2.1; omega
  refine Ev.ite (fun h3 => by rw [if_neg (fun q => by omega)]; exact no) (fun h3 => Ev.ite (fun h4 => by rw [if_neg (fun q => by omega)]; exact no) (fun h4 => Ev.ite (fun h5 => by rw [if_neg (fun q => by omega)]; exact no) (fun h5 => ?_)))
  by_cases h6 : b ≥ (use.length : Int)
  · rw [decide_eq_true h6, if_neg (fun q => by omega)]; exact no
  · rw [decide_eq_false h6, if_pos ⟨h, h2, by omega, by omega⟩]
    obtain ⟨i, rfl⟩ := exists_nat_of_nonneg (show 0 ≤ a by omega)
    obtain ⟨j, rfl⟩ := exists_nat_of_nonneg (show 0 ≤ b by omega)
    have b1 := ordC_bounds h o
    have b2 := ordC_bounds h (swapO o i j)
    refine Ev.succ ?_
    simp only [spec_SwapGain.j0, Bool.false_eq_true, if_false]
    refine Ev.bind0 rfl (Ev.pos (by simp; omega) (Ev.bind0 rfl ?_))
    rw [List.nil_append]
    refine Ev.pos (by omega) (Ev.pos (by omega) (Ev.pos (by omega) (Ev.pos (by omega) (Ev.pos (by omega) (Ev.pos (by omega) (Ev.bind (spec_l7Cost_ev h h2) (Ev.bind (spec_l7Cost_ev (o := swapO o i j) h (swap_ord h2 i j (by omega) (by omega))) ?_)))))))
    rw [w64 (by omega) (by omega)]; exact Ev.now _

theorem impl_PairCost_ev (use way : List Int) (hu : use.length ≤ 1048576) (hw : way.length ≤ 1048576) : Ev (fun k => impl_PairCost.f k use way) (pairSO use way) := by
  unfold impl_PairCost.f pairSO
  refine Ev.bind (impl_areUsed_ev use way hu hw) (Ev.ite (fun h => ?_) (fun h => by rw [if_neg h]; exact Ev.now _))
  rw [if_pos h]
  exact pair_loop h (fun k n i => impl_PairCost.l0 k way n use (use.length : Int) i) (fun _ _ _ => rfl)

theorem spec_PairCost_ev (use way : List Int) (hu : use.length ≤ 1048576) (hw : way.length ≤ 1048576) : Ev (fun k => spec_PairCost.f k use way) (pairSO use way) := by
  unfold spec_PairCost.f pairSO
  refine Ev.bind (spec_l7Ways_ev use way hu hw) (Ev.ite (fun h => ?_) (fun h => by rw [if_neg h]; exact Ev.now _))
  rw [if_pos h]
  exact pair_loop h (fun k n i => spec_PairCost.l0 k use way n (use.length : Int) i) (fun _ _ _ => rfl)

theorem cur_ways (l : List Int) (a s : Int) (hl : bytesOk l) (ha : 0 ≤ a ∧ a ≤ 4611686018427386000) : ∃ (u w : List Int) (a' s' : Int), Ev (fun k => spec_l1Cur_ways.f k l a s) (u, w, a', s') ∧ u.length ≤ 20 ∧ w.length ≤ 20 ∧ a ≤ a' ∧ a' ≤ a + 100 := by
  have l0 : ∀ (d : Nat) (x y : List Int) (a s : Int), x.length + d ≤ 20 → y.length + d ≤ 20 → 0 ≤ a ∧ a + 4 * d ≤ 4611686018427387000 → ∃ (u w : List Int) (a' s' : Int), Ev (fun k => spec_l1Cur_ways.l0 k x y (d : Int) l a s) (u, w, a', s') ∧ u.length ≤ 20 ∧ w.length ≤ 20 ∧ a ≤ a' ∧ a' ≤ a + 4 * d + 4 := by
    intro d
    induction d with
    | zero =>
      intro x y a s hx hy ha
      by_cases h0 : (x.length : Int) > 0
      · obtain ⟨q, a1, s1, e1, b1⟩ := cur_one l a s 30 hl (by omega)
        cases q with
        | true =>
          obtain ⟨z, a2, s2, e2, m2, b2⟩ := cur_among l a1 s1 [(-1), 1000, 1001] hl (by omega) (by simp)
          refine ⟨x.set (0 : Int).toNat z, y, a2, s2, Ev.succ ?_, by rw [List.length_set]; omega, by omega, by omega, by omega⟩
          simp only [spec_l1Cur_ways.l0]
          exact Ev.neg (by omega) (Ev.pos h0 (Ev.bind0 e1 (Ev.pos rfl (Ev.bind0 e2 (Ev.pos (by omega) (Ev.now _))))))
        | false =>
          refine ⟨x, y, a1, s1, Ev.succ ?_, by omega, by omega, by omega, by omega⟩
          simp only [spec_l1Cur_ways.l0]
          exact Ev.neg (by omega) (Ev.pos h0 (Ev.bind0 e1 (Ev.neg (by simp) (Ev.now _))))
      · refine ⟨x, y, a, s, Ev.succ ?_, by omega, by omega, by omega, by omega⟩
        simp only [spec_l1Cur_ways.l0]
        exact Ev.neg (by omega) (Ev.neg h0 (Ev.now _))
    | succ d ih =>
      intro x y a s hx hy ha
      obtain ⟨u, a1, s1, e1, u1, u2, b1⟩ := cur_pick l a s 12 hl (by omega)
      obtain ⟨v, a2, s2, e2, v1, v2, b2⟩ := cur_pick l a1 s1 12 hl (by omega)
      obtain ⟨p, w, a', s', e, h⟩ := ih (x ++ [u]) (y ++ [v]) a2 s2 (by simp; omega) (by simp; omega) (by omega)
      refine ⟨p, w, a', s', Ev.succ ?_, h.1, h.2.1, by omega, by omega⟩
      simp only [spec_l1Cur_ways.l0]
      rw [w64 (x := ((d + 1 : Nat) : Int) - 1) (by omega) (by omega), show ((d + 1 : Nat) : Int) - 1 = (d : Int) by omega]
      exact Ev.pos (by omega) (Ev.bind0 e1 (Ev.pos (by omega) (Ev.bind0 e2 (Ev.pos (by omega) e))))
  unfold spec_l1Cur_ways.f
  obtain ⟨v, a1, s1, e1, v1, v2, b1⟩ := cur_pick l a s 7 hl (by omega)
  obtain ⟨q, a2, s2, e2, b2⟩ := cur_one l a1 s1 20 hl (by omega)
  cases q with
  | true =>
    obtain ⟨w, a3, s3, e3, w1, w2, b3⟩ := cur_pick l a2 s2 2 hl (by omega)
    obtain ⟨n, hn⟩ : ∃ n : Nat, 10 + w = n := exists_nat_of_nonneg (by omega)
    obtain ⟨x, y, a', s', e, h⟩ := l0 n [] [] a3 s3 (by simp; omega) (by simp; omega) (by omega)
    refine ⟨x, y, a', s', Ev.bind0 e1 (Ev.bind0 e2 (Ev.pos rfl (Ev.bind0 e3 (Ev.succ ?_)))), h.1, h.2.1, by omega, by omega⟩
    simp only [spec_l1Cur_ways.j0]
    rw [w64 (by omega) (by omega), hn]; exact e
  | false =>
    obtain ⟨n, rfl⟩ := exists_nat_of_nonneg v1
    obtain ⟨x, y, a', s', e, h⟩ := l0 n [] [] a2 s2 (by simp; omega) (by simp; omega) (by omega)
    refine ⟨x, y, a', s', Ev.bind0 e1 (Ev.bind0 e2 (Ev.neg (by simp) (Ev.succ ?_))), h.1, h.2.1, by omega, by omega⟩
    simp only [spec_l1Cur_ways.j0]; exact e

theorem spec_DrawOrderCost_ev (l : List Int) (hl : bytesOk l) : ∃ u w o : List Int, Ev (fun k => spec_DrawOrderCost.f k l) (u, w, o) ∧ u.length ≤ 20 ∧ w.length ≤ 20 ∧ o.length ≤ 20 := by
  obtain ⟨u, w, a, s, e, h1, h2, h3⟩ := cur_ways l 0 0 hl (by omega)
  obtain ⟨o, a1, s1, e1, h4, h5⟩ := cur_order7 l a s u.length hl (by omega) (by omega)
  exact ⟨u, w, o, Ev.bind e (Ev.bind e1 (Ev.now _)), h1, h2, by omega⟩
theorem spec_DrawPairCost_ev (l : List Int) (hl : bytesOk l) : ∃ u w : List Int, Ev (fun k => spec_DrawPairCost.f k l) (u, w) ∧ u.length ≤ 20 ∧ w.length ≤ 20 := by
  obtain ⟨u, w, a, s, e, h1, h2, h3⟩ := cur_ways l 0 0 hl (by omega)
  exact ⟨u, w, Ev.bind e (Ev.now _), h1, h2⟩
theorem spec_DrawSwapGain_ev (l : List Int) (hl : bytesOk l) : ∃ (u w o : List Int) (x y : Int), Ev (fun k => spec_DrawSwapGain.f k l) (u, w, o, x, y) ∧ u.length ≤ 20 ∧ w.length ≤ 20 ∧ o.length ≤ 20 := by
  obtain ⟨u, w, a, s, e, h1, h2, h3⟩ := cur_ways l 0 0 hl (by omega)
  obtain ⟨o, a1, s1, e1, h4, h5, h6⟩ := cur_order7 l a s u.length hl (by omega) (by omega)
  obtain ⟨x, a2, s2, e2, _, _, b2⟩ := cur_pick l a1 s1 7 hl (by omega)
  obtain ⟨y, a3, s3, e3, _⟩ := cur_pick l a2 s2 7 hl (by omega)
  exact ⟨u, w, o, x, y, Ev.bind e (Ev.bind e1 (Ev.bind0 e2 (Ev.bind0 e3 (Ev.now _)))), h1, h2, by omega⟩

theorem rk_j2 (l : List Int) (hl : bytesOk l) : Ev (fun k => laws_FnRanks.j2 k l) true := by
  obtain ⟨p, q, e1, h1, h2⟩ := spec_DrawPairCost_ev l hl
  obtain ⟨u, w, o, x, y, e2, h3, h4, h5⟩ := spec_DrawSwapGain_ev l hl
  refine Ev.succ ?_
  simp only [laws_FnRanks.j2]
  refine Ev.bind e1 (Ev.bind (impl_PairCost_ev p q (by omega) (by omega)) (Ev.bind (spec_PairCost_ev p q (by omega) (by omega)) (Ev.bind e2 (Ev.bind (impl_SwapGain_ev u w o x y (by omega) (by omega) (by omega)) (Ev.bind (spec_SwapGain_ev u w o x y (by omega) (by omega) (by omega)) ?_)))))
  simp only [bne_self_eq_false, Bool.false_eq_true, if_false, if_true]
  refine Ev.succ ?_
  simp only [laws_FnRanks.j3, Bool.false_eq_true, if_false]
  by_cases h : usedB u w = true ∧ isOrd o (u.length : Int) ∧ (0 ≤ x ∧ x < u.length) ∧ 0 ≤ y ∧ y < u.length
  · have eg : gainSO u w o x y = (ordC u w o - ordC u w (swapO o x y), true) := if_pos h
    rw [eg]
    obtain ⟨hu, ho, hx, hy⟩ := h
    obtain ⟨g1, g2, g3, g4⟩ := used_rd hu
    have lo : o.length = u.length := by have := ho.1; omega
    obtain ⟨i, rfl⟩ := exists_nat_of_nonneg hx.1
    obtain ⟨j, rfl⟩ := exists_nat_of_nonneg hy.1
    have hm := ((perm_idx_iff o).mp ho.2).2
    have m1 := hm _ (List.getElem_mem (show i < o.length by omega))
    have m2 := hm _ (List.getElem_mem (show j < o.length by omega))
    rw [← rd_nat o i (by omega)] at m1
    rw [← rd_nat o j (by omega)] at m2
    have b1 := rd_bounds (by omega) g3 (rd o i)
    have b2 := rd_bounds (by omega) g3 (rd o j)
    have b3 := rd_bounds (by omega) g4 (i : Int)
    have b4 := rd_bounds (by omega) g4 (j : Int)
    have hs := swap_gain u w o i j (by omega) (by omega) (by omega)
    have c1 := ordC_bounds hu o
    have c2 := ordC_bounds hu (swapO o i j)
    rw [w64 (x := rd u (rd o i) - rd u (rd o j)) (by omega) (by omega), w64 (x := rd w (i : Int) - rd w (j : Int)) (by omega) (by omega), ← hs, w64 (by omega) (by omega)]
    exact Ev.pos rfl (Ev.pos (by omega) (Ev.pos (by omega) (Ev.pos (by omega) (Ev.pos (by omega) (Ev.pos (by omega) (Ev.pos (by omega) (Ev.pos (by omega) (Ev.pos (by omega) (Ev.pos (by omega) (Ev.pos (by omega) (Ev.to (Ev.now _) (by simp))))))))))))
  · have eg : gainSO u w o x y = (0, false) := if_neg h
    rw [eg]
    exact Ev.neg (by simp) (Ev.now _)
theorem FnRanks : laws_FnRanks.Pure := by
  intro l0 l1 _ hl0 hw0 _ hl1 hw1
  have b0 := bytesOk_of l0 hw0
  have b1 := bytesOk_of l1 hw1
  refine Ev.rounds (g := fun k => laws_FnRanks.f k l0 l1) ?_
  unfold laws_FnRanks.f
  refine Ev.ite (fun _ => Ev.now _) fun hlen => ?_
  rw [w64 (by omega) (by omega)] at hlen
  obtain ⟨u, w, o, e, h1, h2, h3⟩ := spec_DrawOrderCost_ev l0 b0
  have hbl : (bestSO u w).1.length ≤ 20 := by
    unfold bestSO; split
    · dsimp only; rw [bestO_length]; exact h1
    · simp
  refine Ev.bind e (Ev.bind (impl_OrderCost_ev u w o (by omega) (by omega) (by omega)) (Ev.bind (spec_OrderCost_ev u w o (by omega) (by omega) (by omega)) (Ev.bind (impl_OrderFor_ev u w (by omega) (by omega)) (Ev.bind (spec_OrderFor_ev u w (by omega) (by omega)) ?_))))
  simp only [bne_self_eq_false, Bool.false_eq_true, if_false, if_true]
  refine Ev.bind (Ev.to (laws_sameInts_ev _ _ (by omega)) (decide_eq_true rfl)) (Ev.succ ?_)
  simp only [laws_FnRanks.j0, Bool.not_true, Bool.false_eq_true, if_false]
  have hj := rk_j2 l1 b1
  by_cases hu : usedB u w = true
  · have eb : bestSO u w = (bestO u w, true) := if_pos hu
    rw [eb]
    obtain ⟨g1, g2, g3, g4⟩ := used_rd hu
    obtain ⟨p1, p2⟩ := best_ord (use := u) (way := w) g1
    have lb := bestO_length u w
    have ec : costSO u w (bestO u w) = (ordC u w (bestO u w), true) := if_pos ⟨hu, p1⟩
    have hc := impl_OrderCost_ev u w (bestO u w) (by omega) (by omega) (by omega)
    rw [ec] at hc
    have hio : impl_IsOrder.f (bestO u w) (u.length : Int) = some (true, true) := by
      rw [impl_IsOrder_eq _ _ (by omega)]
      unfold ordF
      rw [if_pos (by omega), decide_eq_true p1]
    have rest : Ev (fun k => laws_FnRanks.j1 k l1 u w (bestO u w) false) true := by
      refine Ev.succ ?_
      simp only [laws_FnRanks.j1, Bool.false_eq_true, if_false]
      refine Ev.ite (fun h0 => ?_) (fun _ => hj)
      obtain ⟨t, et, t0, t1⟩ := laws_numberOf_ev l1 b1 (by omega)
      have d0 : 0 ≤ Int.tdiv t 11 ∧ Int.tdiv t 11 ≤ t := by
        rw [Int.tdiv_eq_ediv_of_nonneg t0]; omega
      obtain ⟨i, hi⟩ : ∃ i : Nat, Int.tmod t (u.length : Int) = i := ⟨(Int.tmod t (u.length : Int)).toNat, by have := Int.tmod_nonneg (u.length : Int) t0; omega⟩
      obtain ⟨j, hj'⟩ : ∃ j : Nat, Int.tmod (Int.tdiv t 11) (u.length : Int) = j := ⟨(Int.tmod (Int.tdiv t 11) (u.length : Int)).toNat, by have := Int.tmod_nonneg (u.length : Int) d0.1; omega⟩
      have il : i < u.length := by have := Int.tmod_lt_of_pos t (show (0 : Int) < u.length by omega); omega
      have jl : j < u.length := by have := Int.tmod_lt_of_pos (Int.tdiv t 11) (show (0 : Int) < u.length by omega); omega
      have hg := impl_SwapGain_ev u w (bestO u w) (i : Int) (j : Int) (by omega) (by omega) (by omega)
      have eg : gainSO u w (bestO u w) (i : Int) (j : Int) = (ordC u w (bestO u w) - ordC u w (swapO (bestO u w) i j), true) := if_pos ⟨hu, p1, by omega, by omega⟩
      rw [eg] at hg
      have hle := p2 _ (swap_ord p1 i j (by omega) (by omega))
      refine Ev.bind et (Ev.neg (by omega) (Ev.bind et ?_))
      rw [w64 (x := Int.tdiv t 11) (by omega) (by omega), hi, hj']
      exact Ev.bind hg (Ev.pos rfl (Ev.neg (by dsimp only; omega) hj))
    refine Ev.pos rfl (Ev.bind hc (Ev.bind0 hio (Ev.pos rfl (Ev.pos rfl (Ev.pos rfl (Ev.ite (fun hok => ?_) (fun _ => rest)))))))
    have ho : isOrd o (u.length : Int) := by
      refine Classical.byContradiction fun q => ?_
      unfold costSO at hok
      rw [if_neg (fun z => q z.2)] at hok
      simp at hok
    have eo : costSO u w o = (ordC u w o, true) := if_pos ⟨hu, ho⟩
    rw [eo]
    have hle := p2 o ho
    rw [show decide (ordC u w (bestO u w) > ordC u w o) = false from decide_eq_false (by omega)]
    exact rest
  · have eb : bestSO u w = ([], false) := if_neg hu
    rw [eb]
    exact Ev.neg (by simp) hj
end Go.Proofs.Ytneojimdhnhkeaa.Pure
