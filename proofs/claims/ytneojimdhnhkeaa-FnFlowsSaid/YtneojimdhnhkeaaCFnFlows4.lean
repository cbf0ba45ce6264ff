/- No flow is more than the most, which no way makes more, and a way that is pushed makes a flow just so much more (Ford and Fulkerson), for drawn nets: no condition but the statement's own. -/
import Derived.Test.YtneojimdhnhkeaaCFnFlows2
import Derived.Test.YtneojimdhnhkeaaCFnFlows0
import Derived.Test.YtneojimdhnhkeaaCFnFlows3
import Derived.Test.YtneojimdhnhkeaaCFnFlows1
set_option linter.unusedVariables false
set_option linter.unusedSimpArgs false
namespace Go.Proofs.Ytneojimdhnhkeaa.Pure
open Go.RowKit Go.Proofs.Ytneojimdhnhkeaa.Print Go.Proofs.YtneojimdhnhkeaaW.PrintWords Go.Proofs.YtneojimdhnhkeaaW.PrintLast Go.Proofs.YtneojimdhnhkeaaW.PrintMore

theorem wl_rd (W : List Nat) (i : Nat) (h : i < W.length) : rd (W.map fun y : Nat => (y : Int)) (i : Int) = ((W.getD i 0 : Nat) : Int) := by
  rw [rd_nat _ i (by simp; exact h)]; simp [h]
theorem fl_sq {n : Nat} {w l : List (List Int)} (hw : Sq n w) (h : IsFl n (ent w) l) : Sq n l := ⟨h.len, h.row, fun i j hi hj => by have h1 := h.lo i j hi hj; have h2 := hw.lo i j hi hj; omega⟩

theorem impl_pushed_l2 {n : Nat} {w l : List (List Int)} {W : List Nat} {m : Int} (hw : Sq n w) (h : IsFl n (ent w) l) (hm : 0 < m ∧ m ≤ 5000) (hW : ∀ i, i < W.length → W.getD i 0 < n) (hnd : ∀ i j, i < W.length → j < W.length → W.getD i 0 = W.getD j 0 → i = j)
    (hroom : ∀ j, j + 1 < W.length → m ≤ roomN w l (W.getD j 0) (W.getD (j + 1) 0)) (hL : 2 ≤ W.length ∧ W.length ≤ 1000) :
    Ev (fun k => impl_pushed.l2 k (W.map fun y : Nat => (y : Int)) l m 1) (pushTo m W l (W.length - 1), m) := by
  have key := ev_up (W.length - 1) (fun k i => impl_pushed.l2 k (W.map fun y : Nat => (y : Int)) (pushTo m W l i) m ((i + 1 : Nat) : Int)) (pushTo m W l (W.length - 1), m) (fun _ => True) trivial ?_ ?_
  · exact key
  · intro _
    refine Ev.succ ?_
    simp only [impl_pushed.l2]
    exact Ev.neg (by rw [List.length_map]; omega) (Ev.now _)
  · intro i hi _ hnx
    have hnx := hnx trivial
    obtain ⟨h1, _, _⟩ := push_ok h hm.1 hW hnd hroom i (by omega)
    have ha := hW i (by omega)
    have hb := hW (i + 1) (by omega)
    have hab : W.getD i 0 ≠ W.getD (i + 1) 0 := fun e => by have := hnd i (i + 1) (by omega) (by omega) e; omega
    have l1 := h1.lo _ _ ha hb
    have l2 := h1.lo _ _ hb ha
    have w1 := hw.lo _ _ ha hb
    have w2 := hw.lo _ _ hb ha
    refine Ev.succ ?_
    simp only [impl_pushed.l2]
    rw [w64 (x := ((i + 1 : Nat) : Int) - 1) (by omega) (by omega), show ((i + 1 : Nat) : Int) - 1 = (i : Int) by omega, w64 (x := ((i + 1 : Nat) : Int) + 1) (by omega) (by omega), show ((i + 1 : Nat) : Int) + 1 = ((i + 1 + 1 : Nat) : Int) by omega]
    rw [wl_rd W i (by omega), wl_rd W (i + 1) (by omega), List.length_map, toNat_nat, toNat_nat]
    simp only [rdL_getD, mn_min]
    rw [show rd ((pushTo m W l i).getD (W.getD (i + 1) 0) []) ((W.getD i 0 : Nat) : Int) = ent (pushTo m W l i) (W.getD (i + 1) 0) (W.getD i 0) from rfl]
    rw [w64 (x := ent (pushTo m W l i) (W.getD (i + 1) 0) (W.getD i 0) - min m (ent (pushTo m W l i) (W.getD (i + 1) 0) (W.getD i 0))) (by omega) (by omega), w64 (x := m - min m (ent (pushTo m W l i) (W.getD (i + 1) 0) (W.getD i 0))) (by omega) (by omega)]
    refine Ev.pos (by omega) (Ev.pos (by omega) (Ev.pos (by omega) (Ev.pos (by omega) (Ev.pos (by omega) (Ev.pos (by rw [h1.len]; omega) (Ev.pos (by omega) (Ev.pos (by rw [h1.row _ hb]; omega) (Ev.bind0 (a := setE (pushTo m W l i) (W.getD (i + 1) 0) (W.getD i 0) (ent (pushTo m W l i) (W.getD (i + 1) 0) (W.getD i 0) - min m (ent (pushTo m W l i) (W.getD (i + 1) 0) (W.getD i 0)))) rfl (Ev.pos (by rw [h1.len]; omega) (Ev.pos (by rw [setE_row _ _ _ _ (by rw [h1.len]; exact hb), h1.row _ ha]; omega) ?_))))))))))
    have e : ent (setE (pushTo m W l i) (W.getD (i + 1) 0) (W.getD i 0) (ent (pushTo m W l i) (W.getD (i + 1) 0) (W.getD i 0) - min m (ent (pushTo m W l i) (W.getD (i + 1) 0) (W.getD i 0)))) (W.getD i 0) (W.getD (i + 1) 0) = ent (pushTo m W l i) (W.getD i 0) (W.getD (i + 1) 0) := by
      rw [setE_ent _ _ _ _ (by rw [h1.len]; exact hb) (by rw [h1.row _ hb]; exact ha), if_neg (fun z => hab z.1)]
    have e2 : pushTo m W l (i + 1) = setE (setE (pushTo m W l i) (W.getD (i + 1) 0) (W.getD i 0) (ent (pushTo m W l i) (W.getD (i + 1) 0) (W.getD i 0) - min m (ent (pushTo m W l i) (W.getD (i + 1) 0) (W.getD i 0)))) (W.getD i 0) (W.getD (i + 1) 0) (ent (pushTo m W l i) (W.getD i 0) (W.getD (i + 1) 0) + (m - min m (ent (pushTo m W l i) (W.getD (i + 1) 0) (W.getD i 0)))) := by
      simp only [pushTo, pushE]; rw [e]
    rw [e2] at hnx
    rw [show rd ((setE (pushTo m W l i) (W.getD (i + 1) 0) (W.getD i 0) (ent (pushTo m W l i) (W.getD (i + 1) 0) (W.getD i 0) - min m (ent (pushTo m W l i) (W.getD (i + 1) 0) (W.getD i 0)))).getD (W.getD i 0) []) ((W.getD (i + 1) 0 : Nat) : Int) = ent (pushTo m W l i) (W.getD i 0) (W.getD (i + 1) 0) from e]
    rw [w64 (x := ent (pushTo m W l i) (W.getD i 0) (W.getD (i + 1) 0) + (m - min m (ent (pushTo m W l i) (W.getD (i + 1) 0) (W.getD i 0)))) (by omega) (by omega)]
    exact hnx
theorem impl_pushed_l1 {n : Nat} {w l o : List (List Int)} {W : List Nat} {c : Int} {r : List (List Int) × Int} (hw : Sq n w) (hl : Sq n l) (hW : ∀ i, i < W.length → W.getD i 0 < n) (hL : 2 ≤ W.length ∧ W.length ≤ 1000) (hr : Ev (fun k => impl_pushed.l2 k (W.map fun y : Nat => (y : Int)) o (leastRoom (roomN w l) W c (W.length - 1)) 1) r) :
    Ev (fun k => impl_pushed.l1 k w l (W.map fun y : Nat => (y : Int)) o c 1) r := by
  have key := ev_up (W.length - 1) (fun k i => impl_pushed.l1 k w l (W.map fun y : Nat => (y : Int)) o (leastRoom (roomN w l) W c i) ((i + 1 : Nat) : Int)) r (fun _ => True) trivial ?_ ?_
  · exact key
  · intro _
    refine Ev.succ ?_
    simp only [impl_pushed.l1]
    exact Ev.neg (by rw [List.length_map]; omega) hr
  · intro i hi _ hnx
    have hnx := hnx trivial
    have ha := hW i (by omega)
    have hb := hW (i + 1) (by omega)
    refine Ev.succ ?_
    simp only [impl_pushed.l1]
    rw [w64 (x := ((i + 1 : Nat) : Int) - 1) (by omega) (by omega), show ((i + 1 : Nat) : Int) - 1 = (i : Int) by omega, w64 (x := ((i + 1 : Nat) : Int) + 1) (by omega) (by omega), show ((i + 1 : Nat) : Int) + 1 = ((i + 1 + 1 : Nat) : Int) by omega]
    rw [wl_rd W i (by omega), wl_rd W (i + 1) (by omega), List.length_map]
    refine Ev.pos (by omega) (Ev.pos (by omega) (Ev.pos (by omega) (Ev.pos (by omega) (Ev.bind0 (impl_room_eq hw hl _ _ ha hb) ?_))))
    rw [mn_min]
    exact hnx
theorem impl_pushed_ev {n : Nat} {w l : List (List Int)} {W : List Nat} (hn : n ≤ 100) (hw : Sq n w) (h : IsFl n (ent w) l) (hW : ∀ i, i < W.length → W.getD i 0 < n) (hnd : ∀ i j, i < W.length → j < W.length → W.getD i 0 = W.getD j 0 → i = j)
    (hroom : ∀ j, j + 1 < W.length → 0 < roomN w l (W.getD j 0) (W.getD (j + 1) 0)) (hL : 2 ≤ W.length ∧ W.length ≤ 1000) :
    Ev (fun k => impl_pushed.f k w l (W.map fun y : Nat => (y : Int))) (pushTo (leastRoom (roomN w l) W 2500 (W.length - 1)) W l (W.length - 1), leastRoom (roomN w l) W 2500 (W.length - 1)) := by
  have hl := fl_sq hw h
  obtain ⟨m1, m2⟩ := leastRoom_le (roomN w l) W 2500 (W.length - 1)
  have mp := leastRoom_pos (roomN w l) W 2500 (by omega) (W.length - 1) (fun j hj => hroom j (by omega))
  unfold impl_pushed.f
  have key := ev_up n (fun k i => impl_pushed.l0 k w l (W.map fun y : Nat => (y : Int)) (l.take i) 2500 l (n : Int) (i : Int)) (pushTo (leastRoom (roomN w l) W 2500 (W.length - 1)) W l (W.length - 1), leastRoom (roomN w l) W 2500 (W.length - 1)) (fun _ => True) trivial ?_ ?_
  · rw [h.len]; simpa using key
  · intro _
    refine Ev.succ ?_
    simp only [impl_pushed.l0]
    refine Ev.neg (by omega) ?_
    rw [List.take_of_length_le (by rw [h.len]; exact Nat.le_refl _)]
    exact impl_pushed_l1 hw hl hW hL (impl_pushed_l2 hw h ⟨mp, by omega⟩ hW hnd (fun j hj => m2 j (by omega)) hL)
  · intro i hi _ hnx
    refine Ev.succ ?_
    simp only [impl_pushed.l0]
    rw [rdL_getD, w64 (x := (i : Int) + 1) (by omega) (by omega)]
    have hr := h.row i hi
    have hc : slices_Clone_int_int.f (l.getD i []) = some (l.getD i []) := by
      unfold slices_Clone_int_int.f
      simp only [Option.bind_some, List.nil_append, List.length_nil]
      rw [if_pos (by omega)]
    refine Ev.pos (by omega) (Ev.pos (by omega) (Ev.pos (by rw [h.len]; omega) (Ev.bind0 hc (Ev.pos (by rw [List.length_take]; omega) ?_))))
    have e : l.take i ++ [l.getD i []] = l.take (i + 1) := by
      have hi' : i < l.length := by rw [h.len]; exact hi
      rw [List.take_succ_eq_append_getElem hi', List.getD_eq_getElem?_getD, List.getElem?_eq_getElem hi']; rfl
    rw [e]
    exact hnx trivial

theorem spec_l13Push_l1 {n : Nat} {w l : List (List Int)} {W : List Nat} {m : Int} (hw : Sq n w) (h : IsFl n (ent w) l) (hm : 0 < m ∧ m ≤ 5000) (hW : ∀ i, i < W.length → W.getD i 0 < n) (hnd : ∀ i j, i < W.length → j < W.length → W.getD i 0 = W.getD j 0 → i = j)
    (hroom : ∀ j, j + 1 < W.length → m ≤ roomN w l (W.getD j 0) (W.getD (j + 1) 0)) (hL : 2 ≤ W.length ∧ W.length ≤ 1000) :
    Ev (fun k => spec_l13Push.l1 k l (W.map fun y : Nat => (y : Int)) m 1) (m, pushTo m W l (W.length - 1)) := by
  have key := ev_up (W.length - 1) (fun k i => spec_l13Push.l1 k (pushTo m W l i) (W.map fun y : Nat => (y : Int)) m ((i + 1 : Nat) : Int)) (m, pushTo m W l (W.length - 1)) (fun _ => True) trivial ?_ ?_
  · exact key
  · intro _
    refine Ev.succ ?_
    simp only [spec_l13Push.l1]
    exact Ev.neg (by rw [List.length_map]; omega) (Ev.now _)
  · intro i hi _ hnx
    have hnx := hnx trivial
    obtain ⟨h1, _, _⟩ := push_ok h hm.1 hW hnd hroom i (by omega)
    have ha := hW i (by omega)
    have hb := hW (i + 1) (by omega)
    have hab : W.getD i 0 ≠ W.getD (i + 1) 0 := fun e => by have := hnd i (i + 1) (by omega) (by omega) e; omega
    have l1 := h1.lo _ _ ha hb
    have l2 := h1.lo _ _ hb ha
    have w1 := hw.lo _ _ ha hb
    have w2 := hw.lo _ _ hb ha
    refine Ev.succ ?_
    simp only [spec_l13Push.l1]
    rw [w64 (x := ((i + 1 : Nat) : Int) - 1) (by omega) (by omega), show ((i + 1 : Nat) : Int) - 1 = (i : Int) by omega, w64 (x := ((i + 1 : Nat) : Int) + 1) (by omega) (by omega), show ((i + 1 : Nat) : Int) + 1 = ((i + 1 + 1 : Nat) : Int) by omega]
    rw [wl_rd W i (by omega), wl_rd W (i + 1) (by omega), List.length_map, toNat_nat, toNat_nat]
    simp only [rdL_getD]
    rw [show rd ((pushTo m W l i).getD (W.getD (i + 1) 0) []) ((W.getD i 0 : Nat) : Int) = ent (pushTo m W l i) (W.getD (i + 1) 0) (W.getD i 0) from rfl]
    refine Ev.pos (by omega) (Ev.pos (by omega) (Ev.pos (by omega) (Ev.pos (by omega) (Ev.pos (by omega) (Ev.pos (by rw [h1.len]; omega) (Ev.pos (by omega) (Ev.pos (by rw [h1.row _ hb]; omega) ?_)))))))
    have e : ∀ v, ent (setE (pushTo m W l i) (W.getD (i + 1) 0) (W.getD i 0) v) (W.getD i 0) (W.getD (i + 1) 0) = ent (pushTo m W l i) (W.getD i 0) (W.getD (i + 1) 0) := fun v => by
      rw [setE_ent _ _ _ _ (by rw [h1.len]; exact hb) (by rw [h1.row _ hb]; exact ha), if_neg (fun z => hab z.1)]
    have e2 : pushTo m W l (i + 1) = setE (setE (pushTo m W l i) (W.getD (i + 1) 0) (W.getD i 0) (ent (pushTo m W l i) (W.getD (i + 1) 0) (W.getD i 0) - min m (ent (pushTo m W l i) (W.getD (i + 1) 0) (W.getD i 0)))) (W.getD i 0) (W.getD (i + 1) 0) (ent (pushTo m W l i) (W.getD i 0) (W.getD (i + 1) 0) + (m - min m (ent (pushTo m W l i) (W.getD (i + 1) 0) (W.getD i 0)))) := by
      simp only [pushTo, pushE]; rw [e]
    rw [e2] at hnx
    have step : ∀ v : Int, v = min m (ent (pushTo m W l i) (W.getD (i + 1) 0) (W.getD i 0)) → Ev (fun k => (some ((pushTo m W l i).set (W.getD (i + 1) 0) (((pushTo m W l i).getD (W.getD (i + 1) 0) []).set (W.getD i 0) (wrap64 (ent (pushTo m W l i) (W.getD (i + 1) 0) (W.getD i 0) - v)))) : Option (List (List Int))).bind fun y =>
        (if ((W.getD i 0 : Nat) : Int) < ((pushTo m W l i).length : Int) then (if ((W.getD (i + 1) 0 : Nat) : Int) < ((y.getD (W.getD i 0) []).length : Int) then (spec_l13Push.l1 k (y.set (W.getD i 0) ((y.getD (W.getD i 0) []).set (W.getD (i + 1) 0) (wrap64 (rd (y.getD (W.getD i 0) []) ((W.getD (i + 1) 0 : Nat) : Int) + wrap64 (m - v))))) (W.map fun y : Nat => (y : Int)) m ((i + 1 + 1 : Nat) : Int)) else none) else none)) (m, pushTo m W l (W.length - 1)) := fun v hv => by
      subst hv
      rw [w64 (x := ent (pushTo m W l i) (W.getD (i + 1) 0) (W.getD i 0) - min m (ent (pushTo m W l i) (W.getD (i + 1) 0) (W.getD i 0))) (by omega) (by omega), w64 (x := m - min m (ent (pushTo m W l i) (W.getD (i + 1) 0) (W.getD i 0))) (by omega) (by omega)]
      refine Ev.bind0 (a := setE (pushTo m W l i) (W.getD (i + 1) 0) (W.getD i 0) (ent (pushTo m W l i) (W.getD (i + 1) 0) (W.getD i 0) - min m (ent (pushTo m W l i) (W.getD (i + 1) 0) (W.getD i 0)))) rfl (Ev.pos (by rw [h1.len]; omega) (Ev.pos (by rw [setE_row _ _ _ _ (by rw [h1.len]; exact hb), h1.row _ ha]; omega) ?_))
      rw [show rd ((setE (pushTo m W l i) (W.getD (i + 1) 0) (W.getD i 0) (ent (pushTo m W l i) (W.getD (i + 1) 0) (W.getD i 0) - min m (ent (pushTo m W l i) (W.getD (i + 1) 0) (W.getD i 0)))).getD (W.getD i 0) []) ((W.getD (i + 1) 0 : Nat) : Int) = ent (pushTo m W l i) (W.getD i 0) (W.getD (i + 1) 0) from e _]
      rw [w64 (x := ent (pushTo m W l i) (W.getD i 0) (W.getD (i + 1) 0) + (m - min m (ent (pushTo m W l i) (W.getD (i + 1) 0) (W.getD i 0)))) (by omega) (by omega)]
      exact hnx
    refine Ev.ite (fun c => ?_) (fun c => ?_)
    · exact step m (by omega)
    · exact step (ent (pushTo m W l i) (W.getD (i + 1) 0) (W.getD i 0)) (by omega)
theorem spec_l13Push_ev {n : Nat} {w l : List (List Int)} {W : List Nat} (hw : Sq n w) (h : IsFl n (ent w) l) (hW : ∀ i, i < W.length → W.getD i 0 < n) (hnd : ∀ i j, i < W.length → j < W.length → W.getD i 0 = W.getD j 0 → i = j)
    (hroom : ∀ j, j + 1 < W.length → 0 < roomN w l (W.getD j 0) (W.getD (j + 1) 0)) (hL : 2 ≤ W.length ∧ W.length ≤ 1000) :
    Ev (fun k => spec_l13Push.f k w l (W.map fun y : Nat => (y : Int))) (leastRoom (roomN w l) W 100 (W.length - 1), pushTo (leastRoom (roomN w l) W 100 (W.length - 1)) W l (W.length - 1)) := by
  have hl := fl_sq hw h
  obtain ⟨m1, m2⟩ := leastRoom_le (roomN w l) W 100 (W.length - 1)
  have mp := leastRoom_pos (roomN w l) W 100 (by omega) (W.length - 1) (fun j hj => hroom j (by omega))
  have hend := spec_l13Push_l1 hw h ⟨mp, by omega⟩ hW hnd (fun j hj => m2 j (by omega)) hL
  unfold spec_l13Push.f
  have key := ev_up (W.length - 1) (fun k i => spec_l13Push.l0 k w l (W.map fun y : Nat => (y : Int)) (leastRoom (roomN w l) W 100 i) ((i + 1 : Nat) : Int)) (leastRoom (roomN w l) W 100 (W.length - 1), pushTo (leastRoom (roomN w l) W 100 (W.length - 1)) W l (W.length - 1)) (fun _ => True) trivial ?_ ?_
  · exact key
  · intro _
    refine Ev.succ ?_
    simp only [spec_l13Push.l0]
    exact Ev.neg (by rw [List.length_map]; omega) hend
  · intro i hi _ hnx
    have hnx := hnx trivial
    have ha := hW i (by omega)
    have hb := hW (i + 1) (by omega)
    refine Ev.succ ?_
    simp only [spec_l13Push.l0]
    rw [w64 (x := ((i + 1 : Nat) : Int) - 1) (by omega) (by omega), show ((i + 1 : Nat) : Int) - 1 = (i : Int) by omega, w64 (x := ((i + 1 : Nat) : Int) + 1) (by omega) (by omega), show ((i + 1 : Nat) : Int) + 1 = ((i + 1 + 1 : Nat) : Int) by omega]
    rw [wl_rd W i (by omega), wl_rd W (i + 1) (by omega), List.length_map]
    refine Ev.pos (by omega) (Ev.pos (by omega) (Ev.pos (by omega) (Ev.pos (by omega) (Ev.bind0 (spec_l13Room_eq hw hl _ _ ha hb) ?_))))
    have es : leastRoom (roomN w l) W 100 (i + 1) = min (leastRoom (roomN w l) W 100 i) (roomN w l (W.getD i 0) (W.getD (i + 1) 0)) := rfl
    refine Ev.ite (fun c => ?_) (fun c => ?_)
    · rw [show leastRoom (roomN w l) W 100 (i + 1) = roomN w l (W.getD i 0) (W.getD (i + 1) 0) by omega] at hnx
      exact hnx
    · rw [show leastRoom (roomN w l) W 100 (i + 1) = leastRoom (roomN w l) W 100 i by omega] at hnx
      exact hnx

theorem getD_snoc (l : List Nat) (b i : Nat) : (l ++ [b]).getD i 0 = if i < l.length then l.getD i 0 else if i = l.length then b else 0 := by
  rw [List.getD_eq_getElem?_getD]
  by_cases c : i < l.length
  · rw [if_pos c, List.getElem?_append_left c, List.getD_eq_getElem?_getD]
  · rw [if_neg c, List.getElem?_append_right (by omega)]
    by_cases d : i = l.length
    · subst d; simp
    · rw [if_neg d]
      obtain ⟨k, hk⟩ : ∃ k, i - l.length = k + 1 := ⟨i - l.length - 1, by omega⟩
      rw [hk]; rfl
theorem getD_mem (l : List Nat) (i : Nat) (h : i < l.length) : l.getD i 0 ∈ l := by
  rw [List.getD_eq_getElem?_getD, List.getElem?_eq_getElem h]; exact List.getElem_mem h
structure WayP (rm : Nat → Nat → Int) (n b : Nat) (W : List Nat) : Prop where
  ne : 0 < W.length
  first : W.getD 0 0 = 0
  last : W.getD (W.length - 1) 0 = b
  lt : ∀ i, i < W.length → W.getD i 0 < n
  nd : ∀ i j, i < W.length → j < W.length → W.getD i 0 = W.getD j 0 → i = j
  room : ∀ j, j + 1 < W.length → 0 < rm (W.getD j 0) (W.getD (j + 1) 0)
theorem way_props {rm : Nat → Nat → Int} {n a b : Nat} {W : List Nat} (h : Way rm n a b W) : a = 0 → WayP rm n b W := by
  induction h with
  | one hn => exact fun _ => ⟨by simp, rfl, rfl, fun i hi => by simp at hi; subst hi; exact hn, fun i j hi hj _ => by simp at hi hj; omega, fun j hj => by simp at hj⟩
  | @snoc a b l h1 hb hnm hr ih =>
    intro e
    have p := ih rfl
    have hlen : (l ++ [b]).length = l.length + 1 := by simp
    have hne := p.ne
    refine ⟨by omega, ?_, ?_, fun i hi => ?_, fun i j hi hj hij => ?_, fun j hj => ?_⟩
    · rw [getD_snoc, if_pos p.ne]; exact p.first
    · rw [hlen, Nat.add_sub_cancel, getD_snoc, if_neg (by omega), if_pos rfl]
    · rw [getD_snoc]
      by_cases c : i < l.length
      · rw [if_pos c]; exact p.lt i c
      · rw [if_neg c, if_pos (by omega)]; exact hb
    · rw [getD_snoc, getD_snoc] at hij
      by_cases c : i < l.length
      · rw [if_pos c] at hij
        by_cases d : j < l.length
        · rw [if_pos d] at hij; exact p.nd i j c d hij
        · rw [if_neg d, if_pos (by omega)] at hij
          exact absurd (hij ▸ getD_mem l i c) hnm
      · rw [if_neg c, if_pos (by omega)] at hij
        by_cases d : j < l.length
        · rw [if_pos d] at hij
          exact absurd (hij.symm ▸ getD_mem l j d) hnm
        · omega
    · rw [getD_snoc, getD_snoc, if_pos (by omega)]
      by_cases c : j + 1 < l.length
      · rw [if_pos c]; exact p.room j c
      · rw [if_neg c, if_pos (by omega), show j = l.length - 1 by omega, p.last]; exact hr

def Cons (n : Nat) (l : List (List Int)) : Prop := ∀ a, 0 < a → a < n - 1 → valAt (ent l) n a = 0
def pushW (w l : List (List Int)) (n : Nat) : List (List Int) := pushTo (leastRoom (roomN w l) (netWay (roomN w l) n) 100 ((netWay (roomN w l) n).length - 1)) (netWay (roomN w l) n) l ((netWay (roomN w l) n).length - 1)
def mostH (w : List (List Int)) (n : Nat) : Nat → List (List Int) → List (List Int)
  | 0, l => l
  | k + 1, l => if netWay (roomN w l) n = [] then l else mostH w n k (pushW w l n)
theorem netWay_props (rm : Nat → Nat → Int) (n : Nat) (hn : 2 ≤ n) (h : netWay rm n ≠ []) : WayP rm n (n - 1) (netWay rm n) ∧ 2 ≤ (netWay rm n).length ∧ (netWay rm n).length ≤ n + 1 := by
  rcases netWay_ok rm n (by omega) with ⟨h1, _⟩ | ⟨h1, h2⟩
  · exact absurd h1 h
  · have p := way_props h1 rfl
    refine ⟨p, ?_, h2⟩
    have h3 := p.ne
    by_cases c : (netWay rm n).length = 1
    · have h4 := p.last
      rw [c, Nat.sub_self, p.first] at h4; omega
    · omega
theorem room_le {n : Nat} {w l : List (List Int)} (hb : ∀ a b, a < n → b < n → ent w a b ≤ 50) (h : IsFl n (ent w) l) (a b : Nat) (ha : a < n) (hb' : b < n) : roomN w l a b ≤ 100 := by
  unfold roomN
  have h1 := h.lo a b ha hb'
  have h2 := h.lo b a hb' ha
  have h3 := hb a b ha hb'
  have h4 := hb b a hb' ha
  omega
theorem pushW_ok {n : Nat} {w l : List (List Int)} (hn : 2 ≤ n) (h : IsFl n (ent w) l) (hc : Cons n l) (hne : netWay (roomN w l) n ≠ []) :
    IsFl n (ent w) (pushW w l n) ∧ Cons n (pushW w l n) ∧ valAt (ent (pushW w l n)) n 0 = valAt (ent l) n 0 + leastRoom (roomN w l) (netWay (roomN w l) n) 100 ((netWay (roomN w l) n).length - 1) ∧ 0 < leastRoom (roomN w l) (netWay (roomN w l) n) 100 ((netWay (roomN w l) n).length - 1) := by
  obtain ⟨p, h2, h3⟩ := netWay_props _ n hn hne
  unfold pushW
  obtain ⟨m1, m2⟩ := leastRoom_le (roomN w l) (netWay (roomN w l) n) 100 ((netWay (roomN w l) n).length - 1)
  have mp := leastRoom_pos (roomN w l) (netWay (roomN w l) n) 100 (by omega) ((netWay (roomN w l) n).length - 1) (fun j hj => p.room j (by omega))
  obtain ⟨g1, g2, _⟩ := push_ok h mp p.lt p.nd (fun j hj => m2 j (by omega)) ((netWay (roomN w l) n).length - 1) (by omega)
  refine ⟨g1, fun a ha ha2 => ?_, ?_, mp⟩
  · rw [g2 a (by omega), p.first, p.last, if_neg (by omega), if_neg (by omega), hc a ha ha2]; rfl
  · rw [g2 0 (by omega), p.first, p.last, if_pos rfl, if_neg (by omega)]; omega
theorem val_le {n : Nat} {w l : List (List Int)} (hb : ∀ a b, a < n → b < n → ent w a b ≤ 50) (h : IsFl n (ent w) l) (hn : 0 < n) : valAt (ent l) n 0 ≤ 50 * (n : Int) := by
  have gen : ∀ m, sumN (fun _ => (50 : Int)) m = 50 * (m : Int) := by
    intro m
    induction m with
    | zero => rfl
    | succ m ih => simp only [sumN, ih]; omega
  rw [← gen n]
  exact sumN_le fun k hk => by
    have h1 := h.lo 0 k hn hk
    have h2 := h.lo k 0 hk hn
    have h3 := hb 0 k hn hk
    omega
theorem mostH_ok {n : Nat} {w : List (List Int)} (hn : 2 ≤ n) (hb : ∀ a b, a < n → b < n → ent w a b ≤ 50) : ∀ (K : Nat) (l : List (List Int)), IsFl n (ent w) l → Cons n l → 50 * (n : Int) < valAt (ent l) n 0 + (K : Int) →
    IsFl n (ent w) (mostH w n K l) ∧ Cons n (mostH w n K l) ∧ netWay (roomN w (mostH w n K l)) n = []
  | 0, l, h, _, hk => by have := val_le hb h (by omega); omega
  | K + 1, l, h, hc, hk => by
    simp only [mostH]
    by_cases c : netWay (roomN w l) n = []
    · rw [if_pos c]; exact ⟨h, hc, c⟩
    · rw [if_neg c]
      obtain ⟨g1, g2, g3, g4⟩ := pushW_ok hn h hc c
      exact mostH_ok hn hb K _ g1 g2 (by rw [g3]; omega)

theorem impl_mostFlow_l1 {n : Nat} {w : List (List Int)} (hn : 2 ≤ n ∧ n ≤ 100) (hw : Sq n w) (hb : ∀ a b, a < n → b < n → ent w a b ≤ 50) : ∀ (K : Nat) (l : List (List Int)), IsFl n (ent w) l → Cons n l → 50 * (n : Int) < valAt (ent l) n 0 + (K : Int) →
    Ev (fun k => impl_mostFlow.l1 k w l) (mostH w n K l)
  | 0, l, h, _, hk => by have := val_le hb h (by omega); omega
  | K + 1, l, h, hc, hk => by
    have hl := fl_sq hw h
    refine Ev.succ ?_
    simp only [impl_mostFlow.l1, mostH]
    refine Ev.bind (impl_nextWay_ev hw hl ⟨by omega, by omega⟩) ?_
    by_cases c : netWay (roomN w l) n = []
    · rw [if_pos c, c]
      exact Ev.pos (by simp) (Ev.now _)
    · rw [if_neg c]
      obtain ⟨p, h2, h3⟩ := netWay_props _ n hn.1 c
      obtain ⟨g1, g2, g3, g4⟩ := pushW_ok hn.1 h hc c
      refine Ev.neg (by rw [List.length_map]; omega) (Ev.bind (impl_pushed_ev (by omega) hw h p.lt p.nd p.room ⟨h2, by omega⟩) ?_)
      have e : leastRoom (roomN w l) (netWay (roomN w l) n) 2500 ((netWay (roomN w l) n).length - 1) = leastRoom (roomN w l) (netWay (roomN w l) n) 100 ((netWay (roomN w l) n).length - 1) := by
        obtain ⟨t, ht⟩ : ∃ t, (netWay (roomN w l) n).length - 1 = t + 1 := ⟨(netWay (roomN w l) n).length - 2, by omega⟩
        rw [ht]
        refine leastRoom_eq _ _ _ _ t (fun j hj => ?_)
        have := room_le hb h _ _ (p.lt j (by omega)) (p.lt (j + 1) (by omega))
        omega
      rw [e]
      exact impl_mostFlow_l1 hn hw hb K (pushW w l n) g1 g2 (by rw [g3]; omega)
theorem zero_fl {n : Nat} {w : List (List Int)} (h0 : ∀ a b, a < n → b < n → 0 ≤ ent w a b) : IsFl n (ent w) (List.replicate n (List.replicate n 0)) ∧ Cons n (List.replicate n (List.replicate n 0)) ∧ valAt (ent (List.replicate n (List.replicate n 0))) n 0 = 0 := by
  have row : ∀ i, i < n → (List.replicate n (List.replicate n (0 : Int))).getD i [] = List.replicate n 0 := fun i hi => by
    rw [List.getD_eq_getElem?_getD, List.getElem?_replicate, if_pos hi]; rfl
  have en : ∀ a b, a < n → b < n → ent (List.replicate n (List.replicate n 0)) a b = 0 := fun a b ha hb => by
    unfold ent
    rw [row a ha, rd_nat _ b (by simp; exact hb)]; simp
  have va : ∀ a, a < n → valAt (ent (List.replicate n (List.replicate n 0))) n a = 0 := fun a ha => by
    unfold valAt
    rw [sumN_congr (g := fun _ => 0) (fun k hk => by rw [en a k ha hk, en k a hk ha]; rfl), sumN_zero]
  refine ⟨⟨by simp, fun i hi => by rw [row i hi]; simp, fun a b ha hb => by rw [en a b ha hb]; have := h0 a b ha hb; omega⟩, fun a ha ha2 => va a (by omega), ?_⟩
  by_cases c : 0 < n
  · exact va 0 c
  · obtain rfl : n = 0 := by omega
    rfl
def mostF (w : List (List Int)) (n : Nat) : List (List Int) := mostH w n (50 * n + 1) (List.replicate n (List.replicate n 0))
theorem mostF_ok {n : Nat} {w : List (List Int)} (hn : 2 ≤ n) (h0 : ∀ a b, a < n → b < n → 0 ≤ ent w a b ∧ ent w a b ≤ 50) : IsFl n (ent w) (mostF w n) ∧ Cons n (mostF w n) ∧ netWay (roomN w (mostF w n)) n = [] := by
  obtain ⟨z1, z2, z3⟩ := zero_fl (fun a b ha hb => (h0 a b ha hb).1)
  exact mostH_ok hn (fun a b ha hb => (h0 a b ha hb).2) _ _ z1 z2 (by rw [z3]; omega)
theorem impl_mostFlow_ev {n : Nat} {w : List (List Int)} (hn : 2 ≤ n ∧ n ≤ 100) (hw : Sq n w) (h0 : ∀ a b, a < n → b < n → 0 ≤ ent w a b ∧ ent w a b ≤ 50) : Ev (fun k => impl_mostFlow.f k w) (mostF w n) := by
  obtain ⟨z1, z2, z3⟩ := zero_fl (fun a b ha hb => (h0 a b ha hb).1)
  unfold impl_mostFlow.f
  rw [hw.len]
  have key := ev_up n (fun k i => impl_mostFlow.l0 k w (List.replicate i (List.replicate n 0)) (n : Int) (i : Int)) (mostF w n) (fun _ => True) trivial ?_ ?_
  · simpa using key
  · intro _
    refine Ev.succ ?_
    simp only [impl_mostFlow.l0]
    exact Ev.neg (by omega) (impl_mostFlow_l1 hn hw (fun a b ha hb => (h0 a b ha hb).2) _ _ z1 z2 (by rw [z3]; omega))
  · intro i hi _ hnx
    refine Ev.succ ?_
    simp only [impl_mostFlow.l0]
    rw [hw.len, toNat_nat, w64 (x := (i : Int) + 1) (by omega) (by omega), ← List.replicate_succ']
    exact Ev.pos (by omega) (Ev.pos (by omega) (Ev.pos (by omega) (Ev.pos (by simp; omega) (hnx trivial))))

theorem spec_l13Most_l1 {n : Nat} {w : List (List Int)} (hn : 2 ≤ n ∧ n ≤ 100) (hw : Sq n w) (hb : ∀ a b, a < n → b < n → ent w a b ≤ 50) : ∀ (K : Nat) (l : List (List Int)), IsFl n (ent w) l → Cons n l → 50 * (n : Int) < valAt (ent l) n 0 + (K : Int) →
    Ev (fun k => spec_l13Most.l1 k w l ((netWay (roomN w l) n).map fun y : Nat => (y : Int))) (mostH w n K l)
  | 0, l, h, _, hk => by have := val_le hb h (by omega); omega
  | K + 1, l, h, hc, hk => by
    refine Ev.succ ?_
    simp only [spec_l13Most.l1, mostH]
    by_cases c : netWay (roomN w l) n = []
    · rw [if_pos c, c]
      exact Ev.neg (by simp) (Ev.now _)
    · rw [if_neg c]
      obtain ⟨p, h2, h3⟩ := netWay_props _ n hn.1 c
      obtain ⟨g1, g2, g3, g4⟩ := pushW_ok hn.1 h hc c
      refine Ev.pos (by rw [List.length_map]; omega) (Ev.bind (spec_l13Push_ev hw h p.lt p.nd p.room ⟨h2, by omega⟩) ?_)
      exact Ev.bind (spec_l13Way_ev hw (fl_sq hw g1) ⟨by omega, by omega⟩) (spec_l13Most_l1 hn hw hb K (pushW w l n) g1 g2 (by rw [g3]; omega))
theorem spec_l13Most_ev {n : Nat} {w : List (List Int)} (hn : 2 ≤ n ∧ n ≤ 100) (hw : Sq n w) (h0 : ∀ a b, a < n → b < n → 0 ≤ ent w a b ∧ ent w a b ≤ 50) : Ev (fun k => spec_l13Most.f k w) (mostF w n) := by
  obtain ⟨z1, z2, z3⟩ := zero_fl (fun a b ha hb => (h0 a b ha hb).1)
  unfold spec_l13Most.f
  rw [hw.len]
  have key := ev_up n (fun k i => spec_l13Most.l0 k w (List.replicate i (List.replicate n 0)) (n : Int) (i : Int)) (mostF w n) (fun _ => True) trivial ?_ ?_
  · simpa using key
  · intro _
    refine Ev.succ ?_
    simp only [spec_l13Most.l0]
    exact Ev.neg (by omega) (Ev.bind (spec_l13Way_ev hw (fl_sq hw z1) ⟨by omega, by omega⟩) (spec_l13Most_l1 hn hw (fun a b ha hb => (h0 a b ha hb).2) _ _ z1 z2 (by rw [z3]; omega)))
  · intro i hi _ hnx
    refine Ev.succ ?_
    simp only [spec_l13Most.l0]
    rw [hw.len, toNat_nat, w64 (x := (i : Int) + 1) (by omega) (by omega), ← List.replicate_succ']
    exact Ev.pos (by omega) (Ev.pos (by omega) (Ev.pos (by omega) (Ev.pos (by simp; omega) (hnx trivial))))

def flowOk (flow : List Int) : Bool := decide (1 ≤ (flow.length : Int)) && decide ((flow.length : Int) ≤ 8) && allIn flow 1 30
def countsOk (flow counts : List Int) : Bool := flowOk flow && (decide ((counts.length : Int) = (flow.length : Int)) && (allIn counts 1 40 && decide (counts.sum ≤ 40)))
def gn (f c : Int) : Int := lowNum f (c * (c + 1))
def gd (f c : Int) : Int := lowDen f (c * (c + 1))
def bestUp (lt : Nat → Nat → Bool) : Nat → Nat
  | 0 => 0
  | i + 1 => if lt (bestUp lt i) i = true then i else bestUp lt i
def gainLt (flow counts : List Int) (b i : Nat) : Bool := decide (gn flow[b]! counts[b]! * gd flow[i]! counts[i]! < gn flow[i]! counts[i]! * gd flow[b]! counts[b]!)
def nextOf (flow counts : List Int) : Nat := bestUp (gainLt flow counts) flow.length

def fits (p : Int × Int) : Int × Int × Bool := if goodFrac p.1 p.2 = true then (p.1, p.2, true) else (0, 0, false)
def bothGood (a b c d : Int) : Bool := goodFrac a b && goodFrac c d
def addF (a b c d : Int) : Int × Int × Bool := if bothGood a b c d = true then fits (lowNum (a * d + c * b) (b * d), lowDen (a * d + c * b) (b * d)) else (0, 0, false)
def subF (a b c d : Int) : Int × Int × Bool := if bothGood a b c d = true then fits (lowNum (a * d - c * b) (b * d), lowDen (a * d - c * b) (b * d)) else (0, 0, false)
def mulF (a b c d : Int) : Int × Int × Bool := if bothGood a b c d = true then fits (lowNum (a * c) (b * d), lowDen (a * c) (b * d)) else (0, 0, false)
def divF (a b c d : Int) : Int × Int × Bool := if bothGood a b c d = true ∧ c ≠ 0 then fits (lowNum (a * d) (b * c), lowDen (a * d) (b * c)) else (0, 0, false)
def lessF (a b c d : Int) : Bool × Bool := if bothGood a b c d = true then (decide (a * d < c * b), true) else (false, false)
def floorF (a b : Int) : Int × Bool := if goodFrac a b = true then (a / b, true) else (0, false)

def sumF : List (Int × Int) → Int × Int → Int × Int × Bool
  | [], s => (s.1, s.2, true)
  | x :: l, s => if (addF s.1 s.2 x.1 x.2).2.2 = true then sumF l ((addF s.1 s.2 x.1 x.2).1, (addF s.1 s.2 x.1 x.2).2.1) else (0, 0, false)

def sumsF (l : List (Int × Int)) : Int × Int × Bool := if l.length ≤ 50 then sumF l (0, 1) else (0, 0, false)

def bump (flow counts : List Int) : List Int := counts.set (nextOf flow counts) (counts[nextOf flow counts]! + 1)
def shareUp (flow : List Int) : Nat → List Int
  | 0 => List.replicate flow.length 1
  | i + 1 => bump flow (shareUp flow i)
def shareOf (flow : List Int) (places : Int) : List Int := shareUp flow (places - flow.length).toNat
def kindsOk (flow : List Int) (places : Int) : Bool := flowOk flow && (decide ((flow.length : Int) ≤ places) && decide (places ≤ 40))

def isqUp (n : Int) : Nat → Int
  | 0 => 0
  | k + 1 => if ((k : Int) + 1) * ((k : Int) + 1) ≤ n then (k : Int) + 1 else isqUp n k
def isq (n : Int) : Int := isqUp n n.toNat
def goodB (a b c d : Int) : Bool := bothGood a b c d && (decide (0 ≤ a) && !decide (c * b < a * d))

def withinB (x y a b c d : Int) : Bool × Bool := if goodFrac x y = true ∧ goodB a b c d = true then (!decide (x * b < a * y) && !decide (c * y < x * d), true) else (false, false)


theorem ev_all {β : Type} (n : Nat) (P : Nat → Bool) (g : Nat → Nat → Option β) (yes no : β)
    (hs : ∀ r i, i < n → P i = true → Ev (fun k => g k (i + 1)) r → Ev (fun k => g k i) r) (hno : ∀ i, i < n → P i = false → Ev (fun k => g k i) no)
    (hyes : (∀ i, i < n → P i = true) → Ev (fun k => g k n) yes) (b : Bool) (hb : b = true ↔ ∀ i, i < n → P i = true) : Ev (fun k => g k 0) (if b = true then yes else no) := by
  by_cases h : ∀ i, i < n → P i = true
  · rw [if_pos (hb.mpr h)]
    exact ev_up n g yes (fun _ => True) trivial (fun _ => hyes h) fun i hi _ hn => hs _ i hi (h i hi) (hn trivial)
  · rw [if_neg (fun hx => h (hb.mp hx))]
    have h1 : ∃ i, i < n ∧ P i = false := by
      refine Classical.byContradiction fun hc => h fun i hi => ?_
      cases hp : P i with
      | true => rfl
      | false => exact absurd ⟨i, hi, hp⟩ hc
    obtain ⟨m, hm, hmin⟩ := exists_least h1
    refine ev_up m g no (fun _ => True) trivial (fun _ => hno m hm.1 hm.2) fun i hi _ hn => hs _ i (by omega) ?_ (hn trivial)
    cases hp : P i with
    | true => rfl
    | false => have := hmin i ⟨by omega, hp⟩; omega
def allTo (P : Nat → Bool) (n : Nat) : Bool := (List.range n).all P
theorem allTo_iff (P : Nat → Bool) (n : Nat) : allTo P n = true ↔ ∀ i, i < n → P i = true := by simp [allTo, List.all_eq_true]

def KK : Int := 219060189739591200
def kd (c : Int) : Int := KK / c
def gK (c : Int) : Int := kd c - kd (c + 1)
def Stab (n : Nat) (f c : Nat → Int) : Prop := ∀ i k, i < n → k < n → i ≠ k → 1 < c i → f k * gK (c k) ≤ f i * gK (c i - 1)
def costN (n : Nat) (f c : Nat → Int) : Int := sumTo (fun i => f i * kd (c i)) n
def tK (x : Int × Int) : Int := x.1 * KK / x.2
def isT (x : Int × Int) (t : Int) : Prop := 1 ≤ x.2 ∧ x.1 * KK = x.2 * t
def ratioL (flow counts : List Int) : List (Int × Int) := (List.range flow.length).map fun (j : Nat) => (lowNum (rd flow j) (rd counts j), lowDen (rd flow j) (rd counts j))
def costF (flow counts : List Int) : Int × Int × Bool := if countsOk flow counts = true then sumF (ratioL flow counts) (0, 1) else (0, 0, false)

def netRow (n : Nat) (r : List Int) : Bool := decide (r.length = n) && allIn r 0 50
def rowsOk (l : List (List Int)) : Bool := (decide (2 ≤ l.length) && decide (l.length ≤ 8)) && l.all (netRow l.length)
def diagOk (l : List (List Int)) (i : Nat) : Bool := decide (ent l i i = 0)
def netOk (l : List (List Int)) : Bool := rowsOk l && allTo (diagOk l) l.length
theorem rowsOk_sq {l : List (List Int)} (h : rowsOk l = true) : (2 ≤ l.length ∧ l.length ≤ 8) ∧ Sq l.length l ∧ ∀ a b, a < l.length → b < l.length → 0 ≤ ent l a b ∧ ent l a b ≤ 50 := by
  unfold rowsOk at h
  simp only [Bool.and_eq_true, decide_eq_true_eq, List.all_eq_true] at h
  obtain ⟨h1, h2⟩ := h
  have row : ∀ i (hi : i < l.length), (l.getD i []).length = l.length ∧ ∀ x ∈ l.getD i [], 0 ≤ x ∧ x ≤ 50 := fun i hi => by
    have e : l.getD i [] = l[i] := by rw [List.getD_eq_getElem?_getD, List.getElem?_eq_getElem hi]; rfl
    have h3 := h2 l[i] (List.getElem_mem hi)
    unfold netRow at h3
    simp only [Bool.and_eq_true, decide_eq_true_eq] at h3
    rw [e]
    exact ⟨h3.1, (allIn_iff _ _ _).mp h3.2⟩
  have bd : ∀ a b, a < l.length → b < l.length → 0 ≤ ent l a b ∧ ent l a b ≤ 50 := fun a b ha hb => by
    obtain ⟨r1, r2⟩ := row a ha
    unfold ent
    rw [rd_nat _ b (by omega)]
    exact r2 _ (List.getElem_mem _)
  exact ⟨h1, ⟨rfl, fun i hi => (row i hi).1, fun a b ha hb => by have := bd a b ha hb; omega⟩, bd⟩

theorem impl_areRows_ev (l : List (List Int)) (h : l.length ≤ 1048576) (hg : ∀ r ∈ l, r.length ≤ 1048576) : Ev (fun k => impl_areRows.f k l) (rowsOk l) := by
  unfold impl_areRows.f sl1_ContainsFunc.f sl3_IndexFunc.f
  refine Ev.bind0 (impl_within_eq _ _ _) (Ev.ite (fun h1 => ?_) (fun h1 => ?_))
  · obtain ⟨j, hj, hev⟩ := ev_indexFunc l (rd_L1 l) (fun i hi => rdL_nat l i hi) (fun k x => impl_areRows_1.f k x l) (fun r => !netRow l.length r) (fun x hx => by
      unfold impl_areRows_1.f netRow
      refine Ev.ite (fun c => ?_) (fun c => ?_)
      · refine Ev.to (Ev.bind (impl_allWithin_ev x 0 50 (by have := hg x hx; omega)) (Ev.now _)) ?_
        rw [decide_eq_true (by omega)]; simp
      · refine Ev.to (Ev.now _) ?_
        rw [decide_eq_false (by omega)]; simp) (fun k i => sl3_IndexFunc.l0 k l (l.length : Int) i l) (fun k i => rfl) (by omega)
    refine Ev.to (Ev.bind (Ev.bind hev (Ev.now _)) (Ev.now _)) ?_
    rw [hj, any_not_all]; unfold rowsOk
    simp only [Bool.and_eq_true, decide_eq_true_eq] at h1
    rw [decide_eq_true (show 2 ≤ l.length by omega), decide_eq_true (show l.length ≤ 8 by omega)]; simp
  · refine Ev.to (Ev.now _) ?_
    unfold rowsOk
    simp only [Bool.and_eq_true, decide_eq_true_eq] at h1
    have : (decide (2 ≤ l.length) && decide (l.length ≤ 8)) = false := by
      simp only [Bool.and_eq_false_iff, decide_eq_false_iff_not]; omega
    rw [this]; rfl

theorem impl_GoodNet_ev (l : List (List Int)) (h : l.length ≤ 1048576) (hg : ∀ r ∈ l, r.length ≤ 1048576) : Ev (fun k => impl_GoodNet.f k l) (netOk l) := by
  unfold impl_GoodNet.f
  refine Ev.bind (impl_areRows_ev l h hg) (Ev.ite (fun hr => ?_) (fun hr => Ev.to (Ev.now _) (by unfold netOk; rw [Bool.eq_false_iff.mpr hr]; rfl)))
  obtain ⟨h1, sq, _⟩ := rowsOk_sq hr
  have key := ev_all l.length (diagOk l) (fun k i => impl_GoodNet.l0 k l (l.length : Int) (i : Int)) true false ?_ ?_ ?_ (allTo (diagOk l) l.length) (allTo_iff _ _)
  · refine Ev.to key ?_
    unfold netOk
    rw [hr]
    cases allTo (diagOk l) l.length <;> rfl
  · intro r i hi hp hn
    refine Ev.succ ?_
    simp only [impl_GoodNet.l0]
    rw [rdL_getD, w64 (x := (i : Int) + 1) (by omega) (by omega)]
    refine Ev.pos (by omega) (Ev.pos (by omega) (Ev.pos (by omega) (Ev.pos (by rw [sq.row i hi]; omega) (Ev.pos ?_ hn))))
    exact of_decide_eq_true hp
  · intro i hi hp
    refine Ev.succ ?_
    simp only [impl_GoodNet.l0]
    rw [rdL_getD]
    refine Ev.pos (by omega) (Ev.pos (by omega) (Ev.pos (by omega) (Ev.pos (by rw [sq.row i hi]; omega) (Ev.neg ?_ (Ev.now _)))))
    exact of_decide_eq_false hp
  · intro _
    refine Ev.succ ?_
    simp only [impl_GoodNet.l0]
    exact Ev.neg (by omega) (Ev.now _)

theorem spec_l13Rows_ev (l : List (List Int)) (h : l.length ≤ 1048576) (hg : ∀ r ∈ l, r.length ≤ 1048576) : Ev (fun k => spec_l13Rows.f k l) (rowsOk l) := by
  unfold spec_l13Rows.f
  have key := ev_all l.length (fun i => netRow l.length (l.getD i [])) (fun k i => spec_l13Rows.l0 k l l (l.length : Int) (i : Int)) (decide (2 ≤ l.length) && decide (l.length ≤ 8)) false ?_ ?_ ?_ (l.all (netRow l.length)) ?_
  · refine Ev.to key ?_
    unfold rowsOk
    cases l.all (netRow l.length) <;> simp
  · intro r i hi hp hn
    have e : l.getD i [] = l[i] := by rw [List.getD_eq_getElem?_getD, List.getElem?_eq_getElem hi]; rfl
    unfold netRow at hp
    simp only [Bool.and_eq_true, decide_eq_true_eq] at hp
    refine Ev.succ ?_
    simp only [spec_l13Rows.l0]
    rw [rdL_getD, w64 (x := (i : Int) + 1) (by omega) (by omega)]
    refine Ev.pos (by omega) (Ev.pos (by omega) (Ev.pos (by omega) (Ev.pos (by omega) (Ev.bind (spec_l1All_ev _ 0 50 ?_) (Ev.pos hp.2 hn)))))
    rw [e]; have := hg l[i] (List.getElem_mem hi); omega
  · intro i hi hp
    have e : l.getD i [] = l[i] := by rw [List.getD_eq_getElem?_getD, List.getElem?_eq_getElem hi]; rfl
    refine Ev.succ ?_
    simp only [spec_l13Rows.l0]
    rw [rdL_getD]
    refine Ev.pos (by omega) (Ev.pos (by omega) (Ev.pos (by omega) (Ev.ite (fun c => ?_) (fun _ => Ev.now _))))
    unfold netRow at hp
    rw [decide_eq_true (show (l.getD i []).length = l.length by omega), Bool.true_and] at hp
    refine Ev.bind (spec_l1All_ev _ 0 50 ?_) (Ev.neg (by rw [hp]; simp) (Ev.now _))
    rw [e]; have := hg l[i] (List.getElem_mem hi); omega
  · intro _
    refine Ev.succ ?_
    simp only [spec_l13Rows.l0]
    refine Ev.neg (by omega) (Ev.bind0 (spec_l1In_eq _ _ _) (Ev.to (Ev.now _) ?_))
    congr 1 <;> (apply Bool.eq_iff_iff.mpr; simp only [decide_eq_true_eq]; omega)
  · rw [List.all_eq_true]
    constructor
    · intro ha i hi
      have e : l.getD i [] = l[i] := by rw [List.getD_eq_getElem?_getD, List.getElem?_eq_getElem hi]; rfl
      rw [e]; exact ha _ (List.getElem_mem hi)
    · intro ha r hr
      obtain ⟨i, hi, rfl⟩ := List.mem_iff_getElem.mp hr
      have e : l.getD i [] = l[i] := by rw [List.getD_eq_getElem?_getD, List.getElem?_eq_getElem hi]; rfl
      have := ha i hi
      rw [e] at this; exact this
theorem spec_GoodNet_ev (l : List (List Int)) (h : l.length ≤ 1048576) (hg : ∀ r ∈ l, r.length ≤ 1048576) : Ev (fun k => spec_GoodNet.f k l) (netOk l) := by
  unfold spec_GoodNet.f
  refine Ev.bind (spec_l13Rows_ev l h hg) (Ev.ite (fun hr => ?_) (fun hr => Ev.to (Ev.now _) (by unfold netOk; rw [Bool.eq_false_iff.mpr hr]; rfl)))
  obtain ⟨h1, sq, _⟩ := rowsOk_sq hr
  have key := ev_all l.length (diagOk l) (fun k i => spec_GoodNet.l0 k l (l.length : Int) (i : Int)) true false ?_ ?_ ?_ (allTo (diagOk l) l.length) (allTo_iff _ _)
  · refine Ev.to key ?_
    unfold netOk
    rw [hr]
    cases allTo (diagOk l) l.length <;> rfl
  · intro r i hi hp hn
    refine Ev.succ ?_
    simp only [spec_GoodNet.l0]
    rw [rdL_getD, w64 (x := (i : Int) + 1) (by omega) (by omega)]
    refine Ev.pos (by omega) (Ev.pos (by omega) (Ev.pos (by omega) (Ev.pos (by rw [sq.row i hi]; omega) (Ev.pos ?_ hn))))
    exact of_decide_eq_true hp
  · intro i hi hp
    refine Ev.succ ?_
    simp only [spec_GoodNet.l0]
    rw [rdL_getD]
    refine Ev.pos (by omega) (Ev.pos (by omega) (Ev.pos (by omega) (Ev.pos (by rw [sq.row i hi]; omega) (Ev.neg ?_ (Ev.now _)))))
    exact of_decide_eq_false hp
  · intro _
    refine Ev.succ ?_
    simp only [spec_GoodNet.l0]
    exact Ev.neg (by omega) (Ev.now _)

theorem sumN_bound (f : Nat → Int) (c : Int) (n : Nat) (h : ∀ i, i < n → -c ≤ f i ∧ f i ≤ c) : ∀ m, m ≤ n → -(c * (m : Int)) ≤ sumN f m ∧ sumN f m ≤ c * (m : Int)
  | 0, _ => by simp [sumN]
  | m + 1, hm => by
    obtain ⟨h1, h2⟩ := sumN_bound f c n h m (by omega)
    obtain ⟨h3, h4⟩ := h m (by omega)
    simp only [sumN]
    rw [show ((m + 1 : Nat) : Int) = (m : Int) + 1 by omega, Int.mul_add, Int.mul_one]
    constructor <;> omega
theorem impl_value_ev {n : Nat} {l : List (List Int)} (hl : Sq n l) (hn : n ≤ 100) (h : Nat) (hh : h < n) : Ev (fun k => impl_value.f k l (h : Int)) (valAt (ent l) n h) := by
  unfold impl_value.f
  rw [hl.len]
  have key := ev_up n (fun k i => impl_value.l0 k l (h : Int) (sumN (fun k => ent l h k - ent l k h) i) (n : Int) (i : Int)) (valAt (ent l) n h) (fun _ => True) trivial ?_ ?_
  · exact key
  · intro _
    refine Ev.succ ?_
    simp only [impl_value.l0]
    exact Ev.neg (by omega) (Ev.now _)
  · intro i hi _ hnx
    have hnx := hnx trivial
    have b1 := hl.lo h i hh hi
    have b2 := hl.lo i h hi hh
    have b3 := sumN_bound (fun k => ent l h k - ent l k h) 2000 n (fun k hk => by have := hl.lo h k hh hk; have := hl.lo k h hk hh; omega) i (by omega)
    refine Ev.succ ?_
    simp only [impl_value.l0]
    rw [rdL_getD, rdL_getD, hl.len, hl.row h hh, hl.row i hi]
    rw [show rd (l.getD h []) (i : Int) = ent l h i from rfl, show rd (l.getD i []) (h : Int) = ent l i h from rfl, w64 (x := ent l h i - ent l i h) (by omega) (by omega), w64 (x := sumN (fun k => ent l h k - ent l k h) i + (ent l h i - ent l i h)) (by omega) (by omega), w64 (x := (i : Int) + 1) (by omega) (by omega)]
    exact Ev.pos (by omega) (Ev.pos (by omega) (Ev.pos (by omega) (Ev.pos (by omega) (Ev.pos (by omega) (Ev.pos (by omega) (Ev.pos (by omega) hnx))))))

theorem spec_l13Value_ev {n : Nat} {l : List (List Int)} (hl : Sq n l) (hn : 0 < n ∧ n ≤ 100) : Ev (fun k => spec_l13Value.f k l) (valAt (ent l) n 0) := by
  unfold spec_l13Value.f
  rw [hl.len]
  have key := ev_up n (fun k i => spec_l13Value.l0 k l (sumN (fun k => ent l 0 k - ent l k 0) i) (n : Int) (i : Int)) (valAt (ent l) n 0) (fun _ => True) trivial ?_ ?_
  · exact key
  · intro _
    refine Ev.succ ?_
    simp only [spec_l13Value.l0]
    exact Ev.neg (by omega) (Ev.now _)
  · intro i hi _ hnx
    have hnx := hnx trivial
    have b1 := hl.lo 0 i hn.1 hi
    have b2 := hl.lo i 0 hi hn.1
    have b3 := sumN_bound (fun k => ent l 0 k - ent l k 0) 2000 n (fun k hk => by have := hl.lo 0 k hn.1 hk; have := hl.lo k 0 hk hn.1; omega) i (by omega)
    have r0 : rd_L1 l 0 = l.getD 0 [] := rdL_getD l 0
    refine Ev.succ ?_
    simp only [spec_l13Value.l0]
    rw [rdL_getD, r0, hl.len, hl.row 0 hn.1, hl.row i hi]
    rw [show rd (l.getD 0 []) (i : Int) = ent l 0 i from rfl, show rd (l.getD i []) 0 = ent l i 0 from rfl, w64 (x := ent l 0 i - ent l i 0) (by omega) (by omega), w64 (x := sumN (fun k => ent l 0 k - ent l k 0) i + (ent l 0 i - ent l i 0)) (by omega) (by omega), w64 (x := (i : Int) + 1) (by omega) (by omega)]
    exact Ev.pos (by omega) (Ev.pos (by omega) (Ev.pos (by omega) (Ev.pos (by omega) (Ev.pos (by omega) (Ev.pos (by omega) hnx)))))

theorem netOk_rows {l : List (List Int)} (h : netOk l = true) : (2 ≤ l.length ∧ l.length ≤ 8) ∧ Sq l.length l ∧ ∀ a b, a < l.length → b < l.length → 0 ≤ ent l a b ∧ ent l a b ≤ 50 := by
  unfold netOk at h
  simp only [Bool.and_eq_true] at h
  exact rowsOk_sq h.1
def mostFF (l : List (List Int)) : List (List Int) × Int × Bool := if netOk l = true then (mostF l l.length, valAt (ent (mostF l l.length)) l.length 0, true) else ([], 0, false)

theorem impl_MostFlow_ev (l : List (List Int)) (h : l.length ≤ 1048576) (hg : ∀ r ∈ l, r.length ≤ 1048576) : Ev (fun k => impl_MostFlow.f k l) (mostFF l) := by
  unfold impl_MostFlow.f mostFF
  refine Ev.bind (impl_GoodNet_ev l h hg) (Ev.ite (fun hk => ?_) (fun hk => by rw [if_neg hk]; exact Ev.now _))
  rw [if_pos hk]
  obtain ⟨h1, sq, bd⟩ := netOk_rows hk
  obtain ⟨g1, _, _⟩ := mostF_ok h1.1 bd
  exact Ev.bind (impl_mostFlow_ev ⟨h1.1, by omega⟩ sq bd) (Ev.bind (impl_value_ev (fl_sq sq g1) (by omega) 0 (by omega)) (Ev.now _))

theorem spec_MostFlow_ev (l : List (List Int)) (h : l.length ≤ 1048576) (hg : ∀ r ∈ l, r.length ≤ 1048576) : Ev (fun k => spec_MostFlow.f k l) (mostFF l) := by
  unfold spec_MostFlow.f mostFF
  refine Ev.bind (spec_GoodNet_ev l h hg) (Ev.ite (fun hk => ?_) (fun hk => by rw [if_neg hk]; exact Ev.now _))
  rw [if_pos hk]
  obtain ⟨h1, sq, bd⟩ := netOk_rows hk
  obtain ⟨g1, _, _⟩ := mostF_ok h1.1 bd
  exact Ev.bind (spec_l13Most_ev ⟨h1.1, by omega⟩ sq bd) (Ev.bind (spec_l13Value_ev (fl_sq sq g1) ⟨by omega, by omega⟩) (Ev.now _))

def sideB (l : List (List Int)) (b : Nat) : Bool := decide (0 ≤ rd (cameF (roomN l (mostF l l.length)) l.length) (b : Int))
def sideTo (l : List (List Int)) : Nat → List Int
  | 0 => []
  | i + 1 => if sideB l i = true then sideTo l i ++ [(i : Int)] else sideTo l i
def cutFF (l : List (List Int)) : List Int × Bool := if netOk l = true then (sideTo l l.length, true) else ([], false)

def fitsAt (w f : List (List Int)) (i j : Nat) : Bool := decide (ent f i j ≤ ent w i j)
def keptAt (f : List (List Int)) (i : Nat) : Bool := decide (i = 0) || (decide (f.length - 1 ≤ i) || decide (valAt (ent f) f.length i = 0))
def hallOk (w f : List (List Int)) (i : Nat) : Bool := allTo (fitsAt w f i) f.length && keptAt f i
def netFlowOk (w f : List (List Int)) : Bool := rowsOk f && (decide (f.length = w.length) && allTo (hallOk w f) f.length)
theorem netFlowOk_fl {w f : List (List Int)} (h : netFlowOk w f = true) : f.length = w.length ∧ IsFl w.length (ent w) f ∧ Cons w.length f := by
  unfold netFlowOk at h
  simp only [Bool.and_eq_true, decide_eq_true_eq] at h
  obtain ⟨h1, h2, h3⟩ := h
  obtain ⟨_, sq, bd⟩ := rowsOk_sq h1
  rw [h2] at sq bd h3
  have h4 := (allTo_iff _ _).mp h3
  refine ⟨h2, ⟨h2, sq.row, fun a b ha hb => ?_⟩, fun a ha ha2 => ?_⟩
  · have h5 := h4 a ha
    unfold hallOk at h5
    simp only [Bool.and_eq_true] at h5
    rw [h2] at h5
    have h6 := (allTo_iff _ _).mp h5.1 b hb
    exact ⟨(bd a b ha hb).1, of_decide_eq_true h6⟩
  · have h5 := h4 a (by omega)
    unfold hallOk keptAt at h5
    simp only [Bool.and_eq_true, Bool.or_eq_true, decide_eq_true_eq] at h5
    rw [h2] at h5
    rcases h5.2 with h6 | h6 | h6
    · omega
    · omega
    · exact h6

theorem spec_l13Flow_ev {w : List (List Int)} (hk : netOk w = true) (f : List (List Int)) (h : f.length ≤ 1048576) (hg : ∀ r ∈ f, r.length ≤ 1048576) : Ev (fun k => spec_l13Flow.f k w f) (netFlowOk w f) := by
  obtain ⟨h1, sqw, bdw⟩ := netOk_rows hk
  unfold spec_l13Flow.f
  refine Ev.bind (spec_l13Rows_ev f h hg) (Ev.ite (fun hr => ?_) (fun hr => ?_))
  · obtain ⟨h2, sq, bd⟩ := rowsOk_sq hr
    refine Ev.succ ?_
    simp only [spec_l13Flow.j0]
    by_cases c : f.length = w.length
    · refine Ev.neg (by rw [c]; simp) ?_
      have inner : ∀ (i : Nat) (r : Bool), i < f.length → Ev (fun k => spec_l13Flow.l0 k w f (f.length : Int) ((i + 1 : Nat) : Int)) r → Ev (fun k => spec_l13Flow.l0 k w f (f.length : Int) (i : Int)) (if allTo (fitsAt w f i) f.length = true then (if keptAt f i = true then r else false) else false) := by
        intro i r hi hE
        refine Ev.succ ?_
        simp only [spec_l13Flow.l0]
        refine Ev.pos (by omega) ?_
        have key := ev_all f.length (fitsAt w f i) (fun k j => spec_l13Flow.l1 k w f (i : Int) (sumN (fun k => ent f i k - ent f k i) j) (f.length : Int) (i : Int) (f.length : Int) (j : Int)) (if keptAt f i = true then r else false) false ?_ ?_ ?_ (allTo (fitsAt w f i) f.length) (allTo_iff _ _)
        · exact key
        · intro r2 j hj hp hn
          have b1 := bd i j hi hj
          have b2 := bd j i hj hi
          have b3 := sumN_bound (fun k => ent f i k - ent f k i) 100 f.length (fun k hk => by have := bd i k hi hk; have := bd k i hk hi; omega) j (by omega)
          refine Ev.succ ?_
          simp only [spec_l13Flow.l1]
          rw [rdL_getD, rdL_getD, rdL_getD, sq.row i hi, sq.row j hj, sqw.row i (by omega)]
          rw [show rd (f.getD i []) (j : Int) = ent f i j from rfl, show rd (f.getD j []) (i : Int) = ent f j i from rfl, show rd (w.getD i []) (j : Int) = ent w i j from rfl, w64 (x := ent f i j - ent f j i) (by omega) (by omega), w64 (x := sumN (fun k => ent f i k - ent f k i) j + (ent f i j - ent f j i)) (by omega) (by omega), w64 (x := (j : Int) + 1) (by omega) (by omega)]
          have hle : ent f i j ≤ ent w i j := of_decide_eq_true hp
          exact Ev.pos (by omega) (Ev.pos (by omega) (Ev.pos (by omega) (Ev.pos (by omega) (Ev.pos (by omega) (Ev.pos (by omega) (Ev.pos (by omega) (Ev.neg (by omega) (Ev.pos (by omega) (Ev.pos (by omega) hn)))))))))
        · intro j hj hp
          refine Ev.succ ?_
          simp only [spec_l13Flow.l1]
          rw [rdL_getD, rdL_getD, sq.row i hi, sqw.row i (by omega)]
          rw [show rd (f.getD i []) (j : Int) = ent f i j from rfl, show rd (w.getD i []) (j : Int) = ent w i j from rfl]
          have hle : ¬ ent f i j ≤ ent w i j := of_decide_eq_false hp
          exact Ev.pos (by omega) (Ev.pos (by omega) (Ev.pos (by omega) (Ev.pos (by omega) (Ev.pos (by omega) (Ev.pos (by omega) (Ev.pos (by omega) (Ev.pos (by omega) (Ev.now _))))))))
        · intro _
          refine Ev.succ ?_
          simp only [spec_l13Flow.l1]
          rw [w64 (x := (i : Int) + 1) (by omega) (by omega), w64 (x := (f.length : Int) - 1) (by omega) (by omega)]
          refine Ev.neg (by omega) ?_
          unfold keptAt
          by_cases d : i = 0
          · refine Ev.neg (by omega) ?_
            rw [decide_eq_true d, Bool.true_or, if_pos rfl]; exact hE
          · refine Ev.pos (by omega) ?_
            rw [decide_eq_false d, Bool.false_or]
            by_cases e : f.length - 1 ≤ i
            · refine Ev.neg (by omega) ?_
              rw [decide_eq_true e, Bool.true_or, if_pos rfl]; exact hE
            · refine Ev.pos (by omega) ?_
              rw [decide_eq_false e, Bool.false_or]
              refine Ev.ite (fun z => ?_) (fun z => ?_)
              · rw [if_pos (show decide (valAt (ent f) f.length i = 0) = true from decide_eq_true z)]; exact hE
              · rw [if_neg (show ¬ decide (valAt (ent f) f.length i = 0) = true from fun q => z (of_decide_eq_true q))]; exact Ev.now _
      have key := ev_all f.length (hallOk w f) (fun k i => spec_l13Flow.l0 k w f (f.length : Int) (i : Int)) true false ?_ ?_ ?_ (allTo (hallOk w f) f.length) (allTo_iff _ _)
      · refine Ev.to key ?_
        unfold netFlowOk
        rw [hr, decide_eq_true c]
        cases allTo (hallOk w f) f.length <;> rfl
      · intro r i hi hp hn
        unfold hallOk at hp
        simp only [Bool.and_eq_true] at hp
        have := inner i r hi hn
        rw [if_pos hp.1, if_pos hp.2] at this
        exact this
      · intro i hi hp
        have hex : ∃ r, Ev (fun k => spec_l13Flow.l0 k w f (f.length : Int) ((i + 1 : Nat) : Int)) r := by
          have gen : ∀ (d i : Nat), i + d = f.length → ∃ r, Ev (fun k => spec_l13Flow.l0 k w f (f.length : Int) (i : Int)) r := by
            intro d
            induction d with
            | zero =>
              intro i hi
              refine ⟨true, Ev.succ ?_⟩
              simp only [spec_l13Flow.l0]
              exact Ev.neg (by omega) (Ev.now _)
            | succ d ih =>
              intro i hi
              obtain ⟨r, hr2⟩ := ih (i + 1) (by omega)
              exact ⟨_, inner i r (by omega) hr2⟩
          exact gen (f.length - (i + 1)) (i + 1) (by omega)
        obtain ⟨r, hE⟩ := hex
        have := inner i r hi hE
        unfold hallOk at hp
        refine Ev.to this ?_
        cases q1 : allTo (fitsAt w f i) f.length with
        | false => simp
        | true =>
          rw [q1, Bool.true_and] at hp
          rw [if_pos rfl, hp, if_neg (by simp)]
      · intro _
        refine Ev.succ ?_
        simp only [spec_l13Flow.l0]
        exact Ev.neg (by omega) (Ev.now _)
    · refine Ev.pos (by simpa using fun z => c (by omega)) (Ev.to (Ev.now _) ?_)
      unfold netFlowOk
      rw [decide_eq_false c]; simp
  · refine Ev.succ ?_
    simp only [spec_l13Flow.j0]
    refine Ev.pos (by first | rfl | trivial) (Ev.to (Ev.now _) ?_)
    unfold netFlowOk
    rw [Bool.eq_false_iff.mpr hr]; rfl

def nextFF (w f : List (List Int)) : List Int × Bool × Bool := if netOk w = true ∧ netFlowOk w f = true then ((netWay (roomN w f) w.length).map (fun y : Nat => (y : Int)), decide (netWay (roomN w f) w.length ≠ []), true) else ([], false, false)

theorem spec_NextWay_ev (w f : List (List Int)) (hw : w.length ≤ 1048576) (hwg : ∀ r ∈ w, r.length ≤ 1048576) (h : f.length ≤ 1048576) (hg : ∀ r ∈ f, r.length ≤ 1048576) : Ev (fun k => spec_NextWay.f k w f) (nextFF w f) := by
  unfold spec_NextWay.f nextFF
  refine Ev.bind (spec_GoodNet_ev w hw hwg) (Ev.ite (fun hk => ?_) (fun hk => Ev.to (Ev.now _) (by rw [if_neg (fun z => hk z.1)])))
  refine Ev.bind (spec_l13Flow_ev hk f h hg) (Ev.ite (fun hf => ?_) (fun hf => Ev.to (Ev.now _) (by rw [if_neg (fun z => hf z.2)])))
  obtain ⟨h1, sqw, bdw⟩ := netOk_rows hk
  obtain ⟨_, fl, _⟩ := netFlowOk_fl hf
  rw [if_pos ⟨hk, hf⟩]
  refine Ev.bind (spec_l13Way_ev sqw (fl_sq sqw fl) ⟨by omega, by omega⟩) (Ev.to (Ev.now _) ?_)
  congr 2
  apply Bool.eq_iff_iff.mpr
  simp only [decide_eq_true_eq, List.length_map]
  constructor
  · intro z e; rw [e] at z; simp at z
  · intro z; have := List.length_pos_iff.mpr z; omega

inductive Tk (F : Nat → Nat → Bool) (nb : Nat) : Nat → Nat → List Int → List Bool → Bool → List Int → List Bool → Prop where
  | done {l b : Nat} {o : List Int} {t : List Bool} : nb ≤ b → Tk F nb l b o t false o t
  | skip {l b : Nat} {o o' : List Int} {t t' : List Bool} {r : Bool} : b < nb → (F l b = false ∨ rdOf false t (b : Int) = true) → Tk F nb l (b + 1) o t r o' t' → Tk F nb l b o t r o' t'
  | free {l b : Nat} {o : List Int} {t : List Bool} : b < nb → F l b = true → rdOf false t (b : Int) = false → rd o (b : Int) < 0 → Tk F nb l b o t true (o.set b (l : Int)) (t.set b true)
  | push {l b m : Nat} {o o' : List Int} {t t' : List Bool} : b < nb → F l b = true → rdOf false t (b : Int) = false → rd o (b : Int) = (m : Int) → Tk F nb m 0 o (t.set b true) true o' t' → Tk F nb l b o t true (o'.set b (l : Int)) t'
  | fail {l b m : Nat} {o o' o'' : List Int} {t t' t'' : List Bool} {r : Bool} : b < nb → F l b = true → rdOf false t (b : Int) = false → rd o (b : Int) = (m : Int) → Tk F nb m 0 o (t.set b true) false o' t' → Tk F nb l (b + 1) o' t' r o'' t'' → Tk F nb l b o t r o'' t''
theorem rd_setn (o : List Int) (b x : Nat) (v : Int) (h : b < o.length) : rd (o.set b v) (x : Int) = if x = b then v else rd o (x : Int) := by
  simp only [rd, Int.toNat_natCast, List.getD_eq_getElem?_getD, List.getElem?_set]
  by_cases hx : b = x
  · subst hx; simp [h]
  · rw [if_neg hx, if_neg (fun e => hx e.symm)]
theorem rdOf_setn (t : List Bool) (b x : Nat) (v : Bool) (h : b < t.length) : rdOf false (t.set b v) (x : Int) = if x = b then v else rdOf false t (x : Int) := by
  simp only [rdOf, Int.toNat_natCast, List.getD_eq_getElem?_getD, List.getElem?_set]
  by_cases hx : b = x
  · subst hx; simp [h]
  · rw [if_neg hx, if_neg (fun e => hx e.symm)]
theorem Tk.len {F : Nat → Nat → Bool} {nb l b : Nat} {o o' : List Int} {t t' : List Bool} {r : Bool} (h : Tk F nb l b o t r o' t') : o'.length = o.length ∧ t'.length = t.length := by
  induction h with
  | done _ => exact ⟨rfl, rfl⟩
  | skip _ _ _ ih => exact ih
  | free _ _ _ _ => simp
  | push _ _ _ _ _ ih => simp at ih ⊢; exact ih
  | fail _ _ _ _ _ _ ih1 ih2 => simp at ih1; exact ⟨by omega, by omega⟩
theorem Tk.rng {F : Nat → Nat → Bool} {nb n l b : Nat} {o o' : List Int} {t t' : List Bool} {r : Bool} (h : Tk F nb l b o t r o' t') :
    o.length = nb → l < n → (∀ x : Nat, x < nb → -1 ≤ rd o (x : Int) ∧ rd o (x : Int) < n) → ∀ x : Nat, x < nb → -1 ≤ rd o' (x : Int) ∧ rd o' (x : Int) < n := by
  induction h with
  | done _ => intro _ _ h; exact h
  | skip _ _ _ ih => exact ih
  | free hb _ _ _ => intro ho hl h x hx; rw [rd_setn _ _ _ _ (by omega)]; split
                     · omega
                     · exact h x hx
  | push hb _ _ hm ht ih =>
    intro ho hl h x hx
    have h1 := h _ hb
    rw [rd_setn _ _ _ _ (by have := ht.len; omega)]; split
    · omega
    · exact ih ho (by omega) h x hx
  | fail hb _ _ hm ht _ ih1 ih2 =>
    intro ho hl h
    have h1 := h _ hb
    exact ih2 (by have := ht.len; omega) hl (ih1 ho (by omega) h)
theorem Tk.mono {F : Nat → Nat → Bool} {nb l b : Nat} {o o' : List Int} {t t' : List Bool} {r : Bool} (h : Tk F nb l b o t r o' t') :
    t.length = nb → ∀ x : Nat, rdOf false t (x : Int) = true → rdOf false t' (x : Int) = true := by
  induction h with
  | done _ => intro _ _ h; exact h
  | skip _ _ _ ih => exact ih
  | free hb _ _ _ => intro ht x hx; rw [rdOf_setn _ _ _ _ (by omega)]; split
                     · rfl
                     · exact hx
  | push hb _ _ _ _ ih => intro ht x hx; exact ih (by simpa using ht) x (by rw [rdOf_setn _ _ _ _ (by omega)]; split <;> simp_all)
  | fail hb _ _ _ hs _ ih1 ih2 => intro ht x hx; exact ih2 (by have := hs.len; simp at this; omega) x (ih1 (by simpa using ht) x (by rw [rdOf_setn _ _ _ _ (by omega)]; split <;> simp_all))
theorem Tk.kept {F : Nat → Nat → Bool} {nb l b : Nat} {o o' : List Int} {t t' : List Bool} {r : Bool} (h : Tk F nb l b o t r o' t') :
    o.length = nb → t.length = nb → ∀ x : Nat, rdOf false t (x : Int) = true → rd o' (x : Int) = rd o (x : Int) := by
  induction h with
  | done _ => intro _ _ _ _; rfl
  | skip _ _ _ ih => exact ih
  | free hb _ h0 _ =>
    intro ho ht x hx; rw [rd_setn _ _ _ _ (by omega)]; split
    · subst x; rw [h0] at hx; cases hx
    · rfl
  | push hb _ h0 _ hs ih =>
    intro ho ht x hx
    rw [rd_setn _ _ _ _ (by have := hs.len; omega)]; split
    · subst x; rw [h0] at hx; cases hx
    · exact ih ho (by simpa using ht) x (by rw [rdOf_setn _ _ _ _ (by omega)]; split <;> simp_all)
  | @fail l b m o o' o'' t t' t'' r hb _ h0 _ hs _ ih1 ih2 =>
    intro ho ht x hx
    have h1 : rdOf false (t.set b true) (x : Int) = true := by rw [rdOf_setn _ _ _ _ (by omega)]; split <;> simp_all
    have := hs.len; simp at this
    rw [ih2 (by omega) (by omega) x (hs.mono (by simpa using ht) x h1), ih1 ho (by simpa using ht) x h1]
theorem Tk.dead {F : Nat → Nat → Bool} {nb l b : Nat} {o o' : List Int} {t t' : List Bool} {r : Bool} (h : Tk F nb l b o t r o' t') (D : Nat → Prop) :
    o.length = nb → (∀ x, D x → x < nb ∧ ∃ m : Nat, rd o (x : Int) = (m : Int) ∧ ∀ y, y < nb → F m y = true → D y) →
    (∀ x, D x → rd o' (x : Int) = rd o (x : Int)) ∧ ((∀ x, b ≤ x → x < nb → F l x = true → D x) → r = false) := by
  induction h with
  | done _ => intro _ _; exact ⟨fun _ _ => rfl, fun _ => rfl⟩
  | skip hb hc hs ih => intro ho hD; exact ⟨(ih ho hD).1, fun hF => (ih ho hD).2 fun x h1 h2 h3 => hF x (by omega) h2 h3⟩
  | @free l b o t hb hf h0 hn =>
    intro ho hD
    have hno : ¬ D b := fun hd => by obtain ⟨_, m, hm, _⟩ := hD b hd; omega
    refine ⟨fun x hx => ?_, fun hF => absurd (hF b (Nat.le_refl _) hb hf) hno⟩
    rw [rd_setn _ _ _ _ (by omega), if_neg]
    intro e; subst e; exact hno hx
  | @push l b m o o' t t' hb hf h0 hm hs ih =>
    intro ho hD
    obtain ⟨i1, i2⟩ := ih ho hD
    have hno : ¬ D b := fun hd => by
      obtain ⟨_, m', hm', hy⟩ := hD b hd
      have e : m' = m := by omega
      subst e
      exact absurd (i2 fun x _ h2 h3 => hy x h2 h3) (by simp)
    refine ⟨fun x hx => ?_, fun hF => absurd (hF b (Nat.le_refl _) hb hf) hno⟩
    rw [rd_setn _ _ _ _ (by have := hs.len; omega), if_neg, i1 x hx]
    intro e; subst e; exact hno hx
  | @fail l b m o o' o'' t t' t'' r hb hf h0 hm hs hr ih1 ih2 =>
    intro ho hD
    obtain ⟨i1, _⟩ := ih1 ho hD
    obtain ⟨j1, j2⟩ := ih2 (by have := hs.len; omega) (fun x hx => by
      obtain ⟨h1, m', h2, h3⟩ := hD x hx
      exact ⟨h1, m', by rw [i1 x hx]; exact h2, h3⟩)
    exact ⟨fun x hx => by rw [j1 x hx, i1 x hx], fun hF => j2 fun x h1 h2 h3 => hF x (by omega) h2 h3⟩
theorem Tk.fails {F : Nat → Nat → Bool} {nb l b : Nat} {o o' : List Int} {t t' : List Bool} {r : Bool} (h : Tk F nb l b o t r o' t') :
    t.length = nb → r = false → o' = o ∧ (∀ x, b ≤ x → x < nb → F l x = true → rdOf false t' (x : Int) = true) ∧
      ∀ x : Nat, x < nb → rdOf false t' (x : Int) = true → rdOf false t (x : Int) = true ∨ ∃ m : Nat, rd o (x : Int) = (m : Int) ∧ ∀ y, y < nb → F m y = true → rdOf false t' (y : Int) = true := by
  induction h with
  | done hb => intro _ _; exact ⟨rfl, fun x h1 h2 _ => by omega, fun x _ h => .inl h⟩
  | @skip l b o o' t t' r hb hc hs ih =>
    intro ht hr
    obtain ⟨h1, h2, h3⟩ := ih ht hr
    refine ⟨h1, fun x a1 a2 a3 => ?_, h3⟩
    rcases Nat.lt_or_ge b x with h | h
    · exact h2 x h a2 a3
    · obtain rfl : x = b := by omega
      rcases hc with hc | hc
      · rw [hc] at a3; cases a3
      · exact hs.mono ht x hc
  | free _ _ _ _ => intro _ hr; cases hr
  | push _ _ _ _ _ _ => intro _ hr; cases hr
  | @fail l b m o o' o'' t t' t'' r hb hf h0 hm hs hq ih1 ih2 =>
    intro ht hr
    have hl := hs.len; simp at hl
    obtain ⟨e1, f1, g1⟩ := ih1 (by simpa using ht) rfl
    obtain ⟨e2, f2, g2⟩ := ih2 (by omega) hr
    have mo := hq.mono (by omega)
    have mb : rdOf false t' (b : Int) = true := hs.mono (by simpa using ht) b (by rw [rdOf_setn _ _ _ _ (by omega), if_pos rfl])
    subst e1
    refine ⟨e2, fun x a1 a2 a3 => ?_, fun x a1 a2 => ?_⟩
    · rcases Nat.lt_or_ge b x with h | h
      · exact f2 x h a2 a3
      · obtain rfl : x = b := by omega
        exact mo x mb
    · rcases g2 x a1 a2 with h | h
      · rcases g1 x a1 h with h' | ⟨m', h1, h2⟩
        · rw [rdOf_setn _ _ _ _ (by omega)] at h'
          split at h'
          · subst x; exact .inr ⟨m, hm, fun y hy hy2 => mo y (f1 y (Nat.zero_le _) hy hy2)⟩
          · exact .inl h'
        · exact .inr ⟨m', h1, fun y hy hy2 => mo y (h2 y hy hy2)⟩
      · exact .inr h
structure Owns (F : Nat → Nat → Bool) (U : Nat → Prop) (o : List Int) : Prop where
  inj : ∀ x y (m : Nat), U x → U y → rd o (x : Int) = (m : Int) → rd o (y : Int) = (m : Int) → x = y
  fit : ∀ x (m : Nat), U x → rd o (x : Int) = (m : Int) → F m x = true
theorem Tk.takes {F : Nat → Nat → Bool} {nb l b : Nat} {o o' : List Int} {t t' : List Bool} {r : Bool} (h : Tk F nb l b o t r o' t') :
    o.length = nb → t.length = nb → r = true → Owns F (fun x => x < nb ∧ rdOf false t (x : Int) = false) o → (∀ x : Nat, x < nb → rdOf false t (x : Int) = false → rd o (x : Int) ≠ (l : Int)) →
    Owns F (fun x => x < nb ∧ rdOf false t (x : Int) = false) o' ∧ ∀ m : Nat, (∃ x : Nat, (x < nb ∧ rdOf false t (x : Int) = false) ∧ rd o' (x : Int) = (m : Int)) ↔ (m = l ∨ ∃ x : Nat, (x < nb ∧ rdOf false t (x : Int) = false) ∧ rd o (x : Int) = (m : Int)) := by
  induction h with
  | done _ => intro _ _ hr; cases hr
  | skip _ _ _ ih => exact ih
  | @free l b o t hb hf h0 hn =>
    intro ho ht _ hO hl
    have e : ∀ x : Nat, rd (o.set b (l : Int)) (x : Int) = if x = b then (l : Int) else rd o (x : Int) := fun x => rd_setn _ _ _ _ (by omega)
    refine ⟨⟨fun x y m hx hy h1 h2 => ?_, fun x m hx h1 => ?_⟩, fun m => ⟨?_, ?_⟩⟩
    · rw [e] at h1 h2
      split at h1 <;> split at h2
      · omega
      · have := hl y hy.1 hy.2; omega
      · have := hl x hx.1 hx.2; omega
      · exact hO.inj x y m hx hy h1 h2
    · rw [e] at h1
      split at h1
      · obtain rfl : l = m := by omega
        subst x; exact hf
      · exact hO.fit x m hx h1
    · rintro ⟨x, hx, h1⟩
      rw [e] at h1
      split at h1
      · exact .inl (by omega)
      · exact .inr ⟨x, hx, h1⟩
    · rintro (h1 | ⟨x, hx, h1⟩)
      · exact ⟨b, ⟨hb, h0⟩, by rw [e, if_pos rfl, h1]⟩
      · refine ⟨x, hx, ?_⟩
        rw [e, if_neg]
        · exact h1
        · intro e2; subst e2; omega
  | @push l b m o o' t t' hb hf h0 hm hs ih =>
    intro ho ht _ hO hl
    have e1 : ∀ x : Nat, rdOf false (t.set b true) (x : Int) = if x = b then true else rdOf false t (x : Int) := fun x => rdOf_setn _ _ _ _ (by omega)
    have sub : ∀ x : Nat, (x < nb ∧ rdOf false (t.set b true) (x : Int) = false) ↔ (x < nb ∧ rdOf false t (x : Int) = false) ∧ x ≠ b := fun x => by
      rw [e1]; split
      · simp_all
      · simp_all
    have e : ∀ x : Nat, rd (o'.set b (l : Int)) (x : Int) = if x = b then (l : Int) else rd o' (x : Int) := fun x => rd_setn _ _ _ _ (by have := hs.len; omega)
    obtain ⟨hO', hL⟩ := ih ho (by simpa using ht) rfl ⟨fun x y k hx hy => hO.inj x y k ((sub x).mp hx).1 ((sub y).mp hy).1, fun x k hx => hO.fit x k ((sub x).mp hx).1⟩
      (fun x h1 h2 h3 => ((sub x).mp ⟨h1, h2⟩).2 (hO.inj x b m ((sub x).mp ⟨h1, h2⟩).1 ⟨hb, h0⟩ h3 hm))
    have hlm : l ≠ m := fun e2 => hl b hb h0 (by rw [hm, e2])
    have hlo : ∀ x : Nat, x < nb → rdOf false t (x : Int) = false → x ≠ b → rd o' (x : Int) ≠ (l : Int) := fun x h1 h2 h3 h4 => by
      rcases (hL l).mp ⟨x, (sub x).mpr ⟨⟨h1, h2⟩, h3⟩, h4⟩ with h5 | ⟨y, h5, h6⟩
      · exact hlm h5
      · exact hl y ((sub y).mp h5).1.1 ((sub y).mp h5).1.2 h6
    refine ⟨⟨fun x y k hx hy h1 h2 => ?_, fun x k hx h1 => ?_⟩, fun k => ⟨?_, ?_⟩⟩
    · rw [e] at h1 h2
      split at h1 <;> split at h2
      · omega
      · rename_i q1 q2; exact absurd (show rd o' (y : Int) = (l : Int) by omega) (hlo y hy.1 hy.2 q2)
      · rename_i q1 q2; exact absurd (show rd o' (x : Int) = (l : Int) by omega) (hlo x hx.1 hx.2 q1)
      · rename_i q1 q2; exact hO'.inj x y k ((sub x).mpr ⟨hx, q1⟩) ((sub y).mpr ⟨hy, q2⟩) h1 h2
    · rw [e] at h1
      split at h1
      · obtain rfl : l = k := by omega
        subst x; exact hf
      · rename_i q; exact hO'.fit x k ((sub x).mpr ⟨hx, q⟩) h1
    · rintro ⟨x, hx, h1⟩
      rw [e] at h1
      split at h1
      · exact .inl (by omega)
      · rename_i q
        rcases (hL k).mp ⟨x, (sub x).mpr ⟨hx, q⟩, h1⟩ with h2 | ⟨y, h2, h3⟩
        · exact .inr ⟨b, ⟨hb, h0⟩, by rw [hm, h2]⟩
        · exact .inr ⟨y, ((sub y).mp h2).1, h3⟩
    · rintro (h1 | ⟨x, hx, h1⟩)
      · exact ⟨b, ⟨hb, h0⟩, by rw [e, if_pos rfl, h1]⟩
      · have : k = m ∨ ∃ y : Nat, (y < nb ∧ rdOf false (t.set b true) (y : Int) = false) ∧ rd o (y : Int) = (k : Int) := by
          by_cases q : x = b
          · subst q; exact .inl (by omega)
          · exact .inr ⟨x, (sub x).mpr ⟨hx, q⟩, h1⟩
        obtain ⟨y, hy, hy2⟩ := (hL k).mpr this
        exact ⟨y, ((sub y).mp hy).1, by rw [e, if_neg ((sub y).mp hy).2]; exact hy2⟩
  | @fail l b m o o' o'' t t' t'' r hb hf h0 hm hs hq ih1 ih2 =>
    intro ho ht hr hO hl
    have ln := hs.len; simp at ln
    obtain ⟨rfl, _, _⟩ := hs.fails (by simpa using ht) rfl
    have mo : ∀ x : Nat, rdOf false t' (x : Int) = false → rdOf false t (x : Int) = false := fun x hx => by
      cases hh : rdOf false t (x : Int) with
      | false => rfl
      | true => rw [hs.mono (by simpa using ht) x (by rw [rdOf_setn _ _ _ _ (by omega)]; split <;> simp_all)] at hx; cases hx
    obtain ⟨hO', hL⟩ := ih2 ho (by omega) hr ⟨fun x y k hx hy => hO.inj x y k ⟨hx.1, mo x hx.2⟩ ⟨hy.1, mo y hy.2⟩, fun x k hx => hO.fit x k ⟨hx.1, mo x hx.2⟩⟩ (fun x h1 h2 => hl x h1 (mo x h2))
    have kp := hq.kept ho (by omega)
    have two : ∀ x : Nat, rdOf false t' (x : Int) = false ∨ rd o'' (x : Int) = rd o' (x : Int) := fun x => by
      cases hh : rdOf false t' (x : Int) with
      | false => exact .inl rfl
      | true => exact .inr (kp x hh)
    have cross : ∀ (x y k : Nat), x < nb → rdOf false t' (x : Int) = false → y < nb → rdOf false t (y : Int) = false → rdOf false t' (y : Int) = true → rd o'' (x : Int) = (k : Int) → rd o'' (y : Int) = (k : Int) → False := fun x y k h1 h2 h3 h4 h5 h6 h7 => by
      rw [kp y h5] at h7
      rcases (hL k).mp ⟨x, ⟨h1, h2⟩, h6⟩ with h8 | ⟨z, h8, h9⟩
      · exact hl y h3 h4 (by rw [h7, h8])
      · have := hO.inj z y k ⟨h8.1, mo z h8.2⟩ ⟨h3, h4⟩ h9 h7
        subst this; rw [h5] at h8; cases h8.2
    refine ⟨⟨fun x y k hx hy h1 h2 => ?_, fun x k hx h1 => ?_⟩, fun k => ⟨?_, ?_⟩⟩
    · cases hx2 : rdOf false t' (x : Int) <;> cases hy2 : rdOf false t' (y : Int)
      · exact hO'.inj x y k ⟨hx.1, hx2⟩ ⟨hy.1, hy2⟩ h1 h2
      · exact (cross x y k hx.1 hx2 hy.1 hy.2 hy2 h1 h2).elim
      · exact (cross y x k hy.1 hy2 hx.1 hx.2 hx2 h2 h1).elim
      · rw [kp x hx2] at h1; rw [kp y hy2] at h2; exact hO.inj x y k hx hy h1 h2
    · cases hx2 : rdOf false t' (x : Int)
      · exact hO'.fit x k ⟨hx.1, hx2⟩ h1
      · rw [kp x hx2] at h1; exact hO.fit x k hx h1
    · rintro ⟨x, hx, h1⟩
      cases hx2 : rdOf false t' (x : Int)
      · rcases (hL k).mp ⟨x, ⟨hx.1, hx2⟩, h1⟩ with h2 | ⟨y, h2, h3⟩
        · exact .inl h2
        · exact .inr ⟨y, ⟨h2.1, mo y h2.2⟩, h3⟩
      · rw [kp x hx2] at h1; exact .inr ⟨x, hx, h1⟩
    · rintro (h1 | ⟨x, hx, h1⟩)
      · obtain ⟨y, hy, hy2⟩ := (hL k).mpr (.inl h1)
        exact ⟨y, ⟨hy.1, mo y hy.2⟩, hy2⟩
      · cases hx2 : rdOf false t' (x : Int)
        · obtain ⟨y, hy, hy2⟩ := (hL k).mpr (.inr ⟨x, ⟨hx.1, hx2⟩, h1⟩)
          exact ⟨y, ⟨hy.1, mo y hy.2⟩, hy2⟩
        · exact ⟨x, hx, by rw [kp x hx2]; exact h1⟩
def cnt (p : Nat → Bool) : Nat → Nat
  | 0 => 0
  | n + 1 => cnt p n + (p n).toNat
inductive Ks (F : Nat → Nat → Bool) (nb n : Nat) : Nat → List Int → List Int → Prop where
  | done {j : Nat} {o : List Int} : n ≤ j → Ks F nb n j o o
  | step {j : Nat} {o o' o'' : List Int} {t' : List Bool} {r : Bool} : j < n → Tk F nb j 0 o (List.replicate nb false) r o' t' → Ks F nb n (j + 1) o' o'' → Ks F nb n j o o''
structure Kuhn (F : Nat → Nat → Bool) (nb n : Nat) (o : List Int) : Prop where
  len : o.length = nb
  rng : ∀ x : Nat, x < nb → -1 ≤ rd o (x : Int) ∧ rd o (x : Int) < n
  inj : ∀ (x y m : Nat), x < nb → y < nb → rd o (x : Int) = (m : Int) → rd o (y : Int) = (m : Int) → x = y
  fit : ∀ (x m : Nat), x < nb → rd o (x : Int) = (m : Int) → F m x = true
  dead : ∃ D : Nat → Prop, (∀ x, D x → x < nb ∧ ∃ m : Nat, rd o (x : Int) = (m : Int) ∧ ∀ y, y < nb → F m y = true → D y) ∧ ∀ l, l < n → (∀ x : Nat, x < nb → rd o (x : Int) ≠ (l : Int)) → ∀ y, y < nb → F l y = true → D y
theorem rdOf_rep (nb x : Nat) : rdOf false (List.replicate nb false) (x : Int) = false := by
  simp only [rdOf, Int.toNat_natCast, List.getD_eq_getElem?_getD, List.getElem?_replicate]; split <;> rfl
theorem rd_rep (nb x : Nat) (v : Int) (h : x < nb) : rd (List.replicate nb v) (x : Int) = v := by
  simp [rd, List.getD_eq_getElem?_getD, List.getElem?_replicate, h]
theorem Kuhn.next {F : Nat → Nat → Bool} {nb j : Nat} {o o' : List Int} {t' : List Bool} {r : Bool} (h : Kuhn F nb j o) (ht : Tk F nb j 0 o (List.replicate nb false) r o' t') : Kuhn F nb (j + 1) o' := by
  obtain ⟨len, rng, inj, fit, D, hD, hU⟩ := h
  have ln := ht.len
  have rng' := ht.rng (n := j + 1) len (by omega) (fun x hx => by have := rng x hx; omega)
  have all : ∀ x : Nat, (x < nb ∧ rdOf false (List.replicate nb false) (x : Int) = false) ↔ x < nb := fun x => by rw [rdOf_rep]; simp
  obtain ⟨d1, d2⟩ := ht.dead D len hD
  cases r with
  | true =>
    obtain ⟨hO, hL⟩ := ht.takes len (by simp) rfl ⟨fun x y m hx hy => inj x y m hx.1 hy.1, fun x m hx => fit x m hx.1⟩ (fun x h1 _ h2 => by have := rng x h1; omega)
    refine ⟨by omega, rng', fun x y m hx hy => hO.inj x y m ((all x).mpr hx) ((all y).mpr hy), fun x m hx => hO.fit x m ((all x).mpr hx), D, fun x hx => ?_, fun l hl hu => ?_⟩
    · obtain ⟨h1, m, h2, h3⟩ := hD x hx
      exact ⟨h1, m, by rw [d1 x hx]; exact h2, h3⟩
    · refine hU l ?_ fun x hx hx2 => ?_
      · rcases Nat.lt_or_ge l j with h | h
        · exact h
        · obtain rfl : l = j := by omega
          obtain ⟨x, hx, hx2⟩ := (hL l).mpr (.inl rfl)
          exact absurd hx2 (hu x hx.1)
      · obtain ⟨y, hy, hy2⟩ := (hL l).mpr (.inr ⟨x, (all x).mpr hx, hx2⟩)
        exact hu y hy.1 hy2
  | false =>
    obtain ⟨rfl, f1, f2⟩ := ht.fails (by simp) rfl
    refine ⟨len, rng', inj, fit, fun x => x < nb ∧ (D x ∨ rdOf false t' (x : Int) = true), fun x hx => ?_, fun l hl hu y hy hF => ?_⟩
    · obtain ⟨h0, hx | hx⟩ := hx
      · obtain ⟨h1, m, h2, h3⟩ := hD x hx
        exact ⟨h1, m, h2, fun y hy hF => ⟨hy, .inl (h3 y hy hF)⟩⟩
      · rcases f2 x h0 hx with h | ⟨m, h1, h2⟩
        · rw [rdOf_rep] at h; cases h
        · exact ⟨h0, m, h1, fun y hy hF => ⟨hy, .inr (h2 y hy hF)⟩⟩
    · rcases Nat.lt_or_ge l j with h | h
      · exact ⟨hy, .inl (hU l h hu y hy hF)⟩
      · obtain rfl : l = j := by omega
        exact ⟨hy, .inr (f1 y (Nat.zero_le _) hy hF)⟩
theorem Kuhn.start (F : Nat → Nat → Bool) (nb : Nat) : Kuhn F nb 0 (List.replicate nb (-1)) := by
  have e : ∀ x : Nat, x < nb → rd (List.replicate nb (-1)) (x : Int) = -1 := fun x hx => rd_rep nb x (-1) hx
  refine ⟨by simp, fun x hx => by rw [e x hx]; omega, fun x y m hx _ h => by rw [e x hx] at h; omega, fun x m hx h => by rw [e x hx] at h; omega, fun _ => False, fun _ h => h.elim, fun l hl => by omega⟩

theorem rep_one (x : Int) (n : Nat) (h : n ≤ 1048576) : slices_Repeat_int_int.f [x] (n : Int) = some (List.replicate n x) := by
  simp only [slices_Repeat_int_int.f]; rw [if_pos (by omega), toNat_nat]

def nbOf (fits : List (List Bool)) : Nat := (fits.getD 0 []).length
def rowOk (fits : List (List Bool)) (r : List Bool) : Bool := decide (r.length = nbOf fits) && decide (r.length ≤ 8)
def fitOk (fits : List (List Bool)) : Bool := decide (fits.length ≤ 8) && fits.all (rowOk fits)
def fitF (fits : List (List Bool)) (l b : Nat) : Bool := rdOf false (fits.getD l []) (b : Int)
def matchAt (o : List Int) (n : Nat) : Nat → List Int
  | 0 => List.replicate n (-1)
  | i + 1 => if rd o (i : Int) ≥ 0 then (matchAt o n i).set (rd o (i : Int)).toNat (i : Int) else matchAt o n i

inductive RL (F : Nat → Nat → Bool) (nb n : Nat) (o : List Int) : Nat → Prop where
  | start {l : Nat} : l < n → (∀ x : Nat, x < nb → rd o (x : Int) ≠ (l : Int)) → RL F nb n o l
  | next {l y m : Nat} : RL F nb n o l → y < nb → F l y = true → rd o (y : Int) = (m : Int) → RL F nb n o m
def RB (F : Nat → Nat → Bool) (nb n : Nat) (o : List Int) (y : Nat) : Prop := y < nb ∧ ∃ l, RL F nb n o l ∧ F l y = true
theorem RL.lt {F : Nat → Nat → Bool} {nb n : Nat} {o : List Int} (hr : ∀ x : Nat, x < nb → -1 ≤ rd o (x : Int) ∧ rd o (x : Int) < n) {l : Nat} (h : RL F nb n o l) : l < n := by
  cases h with
  | start h _ => exact h
  | next _ hy _ hm => have := hr _ hy; omega
structure IsReach (F : Nat → Nat → Bool) (nb n : Nat) (o : List Int) (ls bs : List Bool) : Prop where
  ll : ls.length = n
  lb : bs.length = nb
  rl : ∀ l : Nat, l < n → (rdOf false ls (l : Int) = true ↔ RL F nb n o l)
  rb : ∀ y : Nat, y < nb → (rdOf false bs (y : Int) = true ↔ RB F nb n o y)
structure Sound (F : Nat → Nat → Bool) (nb n : Nat) (o : List Int) (ls bs : List Bool) : Prop where
  ll : ls.length = n
  lb : bs.length = nb
  sl : ∀ l : Nat, l < n → rdOf false ls (l : Int) = true → RL F nb n o l
  sb : ∀ y : Nat, y < nb → rdOf false bs (y : Int) = true → RB F nb n o y
  st : ∀ l : Nat, l < n → (∀ x : Nat, x < nb → rd o (x : Int) ≠ (l : Int)) → rdOf false ls (l : Int) = true
theorem Sound.closed {F : Nat → Nat → Bool} {nb n : Nat} {o : List Int} {ls bs : List Bool} (hr : ∀ x : Nat, x < nb → -1 ≤ rd o (x : Int) ∧ rd o (x : Int) < n) (h : Sound F nb n o ls bs) (h1 : ∀ l : Nat, l < n → rdOf false ls (l : Int) = true → ∀ y : Nat, y < nb → F l y = true → rdOf false bs (y : Int) = true)
    (h2 : ∀ y : Nat, y < nb → rdOf false bs (y : Int) = true → ∀ m : Nat, rd o (y : Int) = (m : Int) → rdOf false ls (m : Int) = true) : IsReach F nb n o ls bs := by
  have all : ∀ l, RL F nb n o l → rdOf false ls (l : Int) = true := by
    intro l hl
    induction hl with
    | start hl hu => exact h.st _ hl hu
    | next hp hy hf hm ih => exact h2 _ hy (h1 _ (RL.lt hr hp) ih _ hy hf) _ hm
  exact ⟨h.ll, h.lb, fun l hl => ⟨h.sl l hl, all l⟩, fun y hy => ⟨h.sb y hy, fun ⟨_, l, hl, hf⟩ => h1 l (RL.lt hr hl) (all l hl) y hy hf⟩⟩
def numsOf (l : List Bool) (so : Bool) : Nat → List Int
  | 0 => []
  | i + 1 => if rdOf false l (i : Int) = so then numsOf l so i ++ [(i : Int)] else numsOf l so i

def riseAt (l : List Int) (n : Int) (i : Nat) : Bool := (decide (0 ≤ rd l (i : Int)) && decide (rd l (i : Int) < n)) && (decide (i = 0) || decide (rd l ((i - 1 : Nat) : Int) < rd l (i : Int)))
def rising (l : List Int) (n : Int) : Bool := allTo (riseAt l n) l.length
def coverAt (fits : List (List Bool)) (a b : List Int) (i j : Nat) : Bool := !fitF fits i j || (decide ((i : Int) ∈ a) || decide ((j : Int) ∈ b))
def isCov (fits : List (List Bool)) (a b : List Int) : Bool := allTo (fun i => allTo (coverAt fits a b i) (nbOf fits)) fits.length
def isCF (fits : List (List Bool)) (a b : List Int) : Bool × Bool := if fitOk fits = true ∧ rising a fits.length = true ∧ rising b (nbOf fits) = true then (isCov fits a b, true) else (false, false)

def cutOk (l : List (List Int)) (side : List Int) : Bool := netOk l && (rising side (l.length : Int) && (decide ((0 : Int) ∈ side) && !decide (((l.length : Int) - 1) ∈ side)))
def pastTo (w : List (List Int)) (side : List Int) (a : Nat) (m : Nat) : Int := sumN (fun b => if (b : Int) ∈ side then 0 else ent w a b) m
def cutTo (w : List (List Int)) (side : List Int) (n i : Nat) : Int := sumN (fun j => pastTo w side (rd side (j : Int)).toNat n) i
def cutWF (l : List (List Int)) (side : List Int) : Int × Bool := if cutOk l side = true then (cutTo l side l.length side.length, true) else (0, false)

def flowVF (f : List (List Int)) : Int × Bool := if rowsOk f = true then (valAt (ent f) f.length 0, true) else (0, false)

theorem impl_FlowValue_ev (f : List (List Int)) (h : f.length ≤ 1048576) (hg : ∀ r ∈ f, r.length ≤ 1048576) : Ev (fun k => impl_FlowValue.f k f) (flowVF f) := by
  unfold impl_FlowValue.f flowVF
  refine Ev.bind (impl_areRows_ev f h hg) (Ev.ite (fun hk => ?_) (fun hk => by rw [if_neg hk]; exact Ev.now _))
  rw [if_pos hk]
  obtain ⟨h1, sq, _⟩ := rowsOk_sq hk
  exact Ev.bind (impl_value_ev sq (by omega) 0 (by omega)) (Ev.now _)

theorem impl_isFlowing_ev (w f : List (List Int)) (hw : w.length ≤ 1048576) (hwg : ∀ r ∈ w, r.length ≤ 1048576) (h : f.length ≤ 1048576) (hg : ∀ r ∈ f, r.length ≤ 1048576) : Ev (fun k => impl_isFlowing.f k w f) (netOk w && netFlowOk w f) := by
  unfold impl_isFlowing.f
  refine Ev.bind (impl_GoodNet_ev w hw hwg) (Ev.ite (fun hk => ?_) (fun hk => Ev.to (Ev.now _) (by rw [Bool.eq_false_iff.mpr hk]; rfl)))
  rw [hk, Bool.true_and]
  obtain ⟨h1, sqw, bdw⟩ := netOk_rows hk
  refine Ev.bind (impl_areRows_ev f h hg) (Ev.ite (fun hr => ?_) (fun hr => Ev.to (Ev.now _) (by unfold netFlowOk; rw [Bool.eq_false_iff.mpr hr]; rfl)))
  obtain ⟨h2, sq, bd⟩ := rowsOk_sq hr
  by_cases c : f.length = w.length
  · refine Ev.pos (by omega) (Ev.bind (a := netFlowOk w f) ?_ (Ev.now _))
    unfold impl_isFlowOf.f
    have inner : ∀ (i : Nat) (r : Bool), i < f.length → Ev (fun k => impl_isFlowOf.l0 k w f f (f.length : Int) ((i + 1 : Nat) : Int)) r → Ev (fun k => impl_isFlowOf.l0 k w f f (f.length : Int) (i : Int)) (if allTo (fitsAt w f i) f.length = true then (if keptAt f i = true then r else false) else false) := by
      intro i r hi hE
      refine Ev.succ ?_
      simp only [impl_isFlowOf.l0]
      rw [rdL_getD, sq.row i hi]
      refine Ev.pos (by omega) (Ev.pos (by omega) (Ev.pos (by omega) ?_))
      have key := ev_all f.length (fitsAt w f i) (fun k j => impl_isFlowOf.l1 k w f (i : Int) f (f.length : Int) (i : Int) (f.getD i []) (f.length : Int) (j : Int)) (if keptAt f i = true then r else false) false ?_ ?_ ?_ (allTo (fitsAt w f i) f.length) (allTo_iff _ _)
      · exact key
      · intro r2 j hj hp hn
        refine Ev.succ ?_
        simp only [impl_isFlowOf.l1]
        rw [rdL_getD, sq.row i hi, sqw.row i (by omega)]
        rw [show rd (f.getD i []) (j : Int) = ent f i j from rfl, show rd (w.getD i []) (j : Int) = ent w i j from rfl, w64 (x := (j : Int) + 1) (by omega) (by omega)]
        have hle : ent f i j ≤ ent w i j := of_decide_eq_true hp
        exact Ev.pos (by omega) (Ev.pos (by omega) (Ev.pos (by omega) (Ev.pos (by omega) (Ev.pos (by omega) (Ev.pos (by omega) (Ev.neg (by omega) hn))))))
      · intro j hj hp
        refine Ev.succ ?_
        simp only [impl_isFlowOf.l1]
        rw [rdL_getD, sq.row i hi, sqw.row i (by omega)]
        rw [show rd (f.getD i []) (j : Int) = ent f i j from rfl, show rd (w.getD i []) (j : Int) = ent w i j from rfl]
        have hle : ¬ ent f i j ≤ ent w i j := of_decide_eq_false hp
        exact Ev.pos (by omega) (Ev.pos (by omega) (Ev.pos (by omega) (Ev.pos (by omega) (Ev.pos (by omega) (Ev.pos (by omega) (Ev.pos (by omega) (Ev.now _)))))))
      · intro _
        refine Ev.succ ?_
        simp only [impl_isFlowOf.l1]
        rw [w64 (x := (i : Int) + 1) (by omega) (by omega), w64 (x := (f.length : Int) - 1) (by omega) (by omega)]
        refine Ev.neg (by omega) ?_
        unfold keptAt
        by_cases d : i = 0
        · refine Ev.neg (by omega) ?_
          rw [decide_eq_true d, Bool.true_or, if_pos rfl]; exact hE
        · refine Ev.pos (by omega) ?_
          rw [decide_eq_false d, Bool.false_or]
          by_cases e : f.length - 1 ≤ i
          · refine Ev.neg (by omega) ?_
            rw [decide_eq_true e, Bool.true_or, if_pos rfl]; exact hE
          · refine Ev.pos (by omega) (Ev.bind (impl_value_ev sq (by omega) i hi) ?_)
            rw [decide_eq_false e, Bool.false_or]
            refine Ev.ite (fun z => ?_) (fun z => ?_)
            · rw [if_pos (decide_eq_true z)]; exact hE
            · rw [if_neg (fun q => z (of_decide_eq_true q))]; exact Ev.now _
    have key := ev_all f.length (hallOk w f) (fun k i => impl_isFlowOf.l0 k w f f (f.length : Int) (i : Int)) true false ?_ ?_ ?_ (allTo (hallOk w f) f.length) (allTo_iff _ _)
    · refine Ev.to key ?_
      unfold netFlowOk
      rw [hr, decide_eq_true c]
      cases allTo (hallOk w f) f.length <;> rfl
    · intro r i hi hp hn
      unfold hallOk at hp
      simp only [Bool.and_eq_true] at hp
      have := inner i r hi hn
      rw [if_pos hp.1, if_pos hp.2] at this
      exact this
    · intro i hi hp
      have hex : ∃ r, Ev (fun k => impl_isFlowOf.l0 k w f f (f.length : Int) ((i + 1 : Nat) : Int)) r := by
        have gen : ∀ (d i : Nat), i + d = f.length → ∃ r, Ev (fun k => impl_isFlowOf.l0 k w f f (f.length : Int) (i : Int)) r := by
          intro d
          induction d with
          | zero =>
            intro i hi
            refine ⟨true, Ev.succ ?_⟩
            simp only [impl_isFlowOf.l0]
            exact Ev.neg (by omega) (Ev.now _)
          | succ d ih =>
            intro i hi
            obtain ⟨r, hr2⟩ := ih (i + 1) (by omega)
            exact ⟨_, inner i r (by omega) hr2⟩
        exact gen (f.length - (i + 1)) (i + 1) (by omega)
      obtain ⟨r, hE⟩ := hex
      have := inner i r hi hE
      unfold hallOk at hp
      refine Ev.to this ?_
      cases q1 : allTo (fitsAt w f i) f.length with
      | false => simp
      | true =>
        rw [q1, Bool.true_and] at hp
        rw [if_pos rfl, hp, if_neg (by simp)]
    · intro _
      refine Ev.succ ?_
      simp only [impl_isFlowOf.l0]
      exact Ev.neg (by omega) (Ev.now _)
  · refine Ev.neg (by omega) (Ev.to (Ev.now _) ?_)
    unfold netFlowOk
    rw [decide_eq_false c]; simp

theorem impl_NextWay_ev (w f : List (List Int)) (hw : w.length ≤ 1048576) (hwg : ∀ r ∈ w, r.length ≤ 1048576) (h : f.length ≤ 1048576) (hg : ∀ r ∈ f, r.length ≤ 1048576) : Ev (fun k => impl_NextWay.f k w f) (nextFF w f) := by
  unfold impl_NextWay.f nextFF
  refine Ev.bind (impl_isFlowing_ev w f hw hwg h hg) (Ev.ite (fun hk => ?_) (fun hk => Ev.to (Ev.now _) (by rw [if_neg (fun z => hk (by rw [z.1, z.2]; rfl))])))
  simp only [Bool.and_eq_true] at hk
  obtain ⟨h1, sqw, bdw⟩ := netOk_rows hk.1
  obtain ⟨_, fl, _⟩ := netFlowOk_fl hk.2
  rw [if_pos hk]
  refine Ev.bind (impl_nextWay_ev sqw (fl_sq sqw fl) ⟨by omega, by omega⟩) (Ev.to (Ev.now _) ?_)
  congr 2
  apply Bool.eq_iff_iff.mpr
  simp only [bne_iff_ne, ne_eq, decide_eq_true_eq, List.length_map]
  constructor
  · intro z e; rw [e] at z; simp at z
  · intro z; have := List.length_pos_iff.mpr z; omega

def isFF (w f : List (List Int)) : Bool × Bool := if netOk w = true then (netFlowOk w f, true) else (false, false)

theorem impl_IsFlow_ev (w f : List (List Int)) (hw : w.length ≤ 1048576) (hwg : ∀ r ∈ w, r.length ≤ 1048576) (h : f.length ≤ 1048576) (hg : ∀ r ∈ f, r.length ≤ 1048576) : Ev (fun k => impl_IsFlow.f k w f) (isFF w f) := by
  unfold impl_IsFlow.f isFF
  refine Ev.bind (impl_GoodNet_ev w hw hwg) (Ev.ite (fun hk => ?_) (fun hk => by rw [if_neg hk]; exact Ev.now _))
  rw [if_pos hk]
  refine Ev.to (Ev.bind (impl_isFlowing_ev w f hw hwg h hg) (Ev.now _)) ?_
  rw [hk, Bool.true_and]

theorem spec_IsFlow_ev (w f : List (List Int)) (hw : w.length ≤ 1048576) (hwg : ∀ r ∈ w, r.length ≤ 1048576) (h : f.length ≤ 1048576) (hg : ∀ r ∈ f, r.length ≤ 1048576) : Ev (fun k => spec_IsFlow.f k w f) (isFF w f) := by
  unfold spec_IsFlow.f isFF
  refine Ev.bind (spec_GoodNet_ev w hw hwg) (Ev.ite (fun hk => ?_) (fun hk => by rw [if_neg hk]; exact Ev.now _))
  rw [if_pos hk]
  exact Ev.bind (spec_l13Flow_ev hk f h hg) (Ev.now _)

theorem RB.owned {F : Nat → Nat → Bool} {nb n : Nat} {o : List Int} (hk : Kuhn F nb n o) {y : Nat} (h : RB F nb n o y) : ∃ m : Nat, rd o (y : Int) = (m : Int) := by
  obtain ⟨D, hD, hU⟩ := hk.dead
  have key : ∀ l, RL F nb n o l → ∀ y : Nat, y < nb → F l y = true → D y := by
    intro l hl
    induction hl with
    | start hl hu => exact hU _ hl hu
    | @next l y m hp hy hf hm ih =>
      obtain ⟨_, m', h1, h2⟩ := hD _ (ih _ hy hf)
      obtain rfl : m' = m := by omega
      exact h2
  obtain ⟨hy, l, hl, hf⟩ := h
  obtain ⟨_, m, hm, _⟩ := hD y (key l hl y hy hf)
  exact ⟨m, hm⟩
structure IsM (F : Nat → Nat → Bool) (nb n : Nat) (x : List Int) : Prop where
  len : x.length = n
  rng : ∀ l : Nat, l < n → -1 ≤ rd x (l : Int) ∧ rd x (l : Int) < nb
  fit : ∀ (l b : Nat), l < n → rd x (l : Int) = (b : Int) → F l b = true
  inj : ∀ (l l' b : Nat), l < n → l' < n → rd x (l : Int) = (b : Int) → rd x (l' : Int) = (b : Int) → l = l'
theorem slices_Contains_ev (l : List Int) (a : Int) (hl : l.length ≤ 1048576) : Ev (fun k => slices_Contains_int_int.f k l a) (decide (a ∈ l)) := by
  unfold slices_Contains_int_int.f slices_Index_int_int.f
  have gen : ∀ (d i : Nat), i + d = l.length → ∃ j : Int, Ev (fun k => slices_Index_int_int.l0 k l a (l.length : Int) (i : Int)) j ∧ (decide (j ≥ 0) = decide (a ∈ l.drop i)) := by
    intro d
    induction d with
    | zero =>
      intro i hi
      refine ⟨-1, ?_, by rw [List.drop_of_length_le (by omega)]; simp⟩
      refine Ev.succ ?_; simp only [slices_Index_int_int.l0]; exact Ev.neg (by omega) (Ev.now _)
    | succ d ih =>
      intro i hi
      have hi' : i < l.length := by omega
      by_cases he : a = l[i]
      · refine ⟨i, ?_, ?_⟩
        · refine Ev.succ ?_
          simp only [slices_Index_int_int.l0]
          rw [rd_nat l i hi']
          exact Ev.pos (by omega) (Ev.pos (by omega) (Ev.pos (by omega) (Ev.pos he (Ev.now _))))
        · rw [List.drop_eq_getElem_cons hi', ← he]; simp
      · obtain ⟨j, h1, h2⟩ := ih (i + 1) (by omega)
        refine ⟨j, ?_, ?_⟩
        · refine Ev.succ ?_
          simp only [slices_Index_int_int.l0]
          rw [rd_nat l i hi', w64n hi' (by omega)]
          exact Ev.pos (by omega) (Ev.pos (by omega) (Ev.pos (by omega) (Ev.neg he h1)))
        · rw [h2, decide_eq_decide, List.drop_eq_getElem_cons hi', List.mem_cons]
          exact ⟨.inr, fun h => h.elim (fun h => absurd h he) id⟩
  obtain ⟨j, h1, h2⟩ := gen l.length 0 (by omega)
  refine Ev.to (Ev.bind h1 (Ev.now _)) ?_
  rw [h2, List.drop_zero]

def okAt (fits : List (List Bool)) (m : List Int) (i : Nat) : Bool := decide (rd m (i : Int) = -1) || ((decide (0 ≤ rd m (i : Int)) && decide (rd m (i : Int) < nbOf fits)) && (rdOf false (fits.getD i []) (rd m (i : Int)) && !decide (rd m (i : Int) ∈ m.take i)))
def isMat (fits : List (List Bool)) (m : List Int) : Bool := decide (m.length = fits.length) && allTo (okAt fits m) m.length
def isMF (fits : List (List Bool)) (m : List Int) : Bool × Bool := if fitOk fits = true then (isMat fits m, true) else (false, false)
def countB (m : List Int) : Bool := decide (m.length ≤ 8) && allIn m (-1) 7
def countF (m : List Int) : Int × Bool := if countB m = true then ((cnt (fun l => decide (rd m (l : Int) ≥ 0)) m.length : Nat), true) else (0, false)

theorem IsM.countB {F : Nat → Nat → Bool} {nb n : Nat} {x : List Int} (h : IsM F nb n x) (hn : n ≤ 8) (hb : nb ≤ 8) : countF x = (((cnt (fun l => decide (rd x (l : Int) ≥ 0)) n : Nat) : Int), true) := by
  have hl := h.len
  have hc : Pure.countB x = true := by
    unfold Pure.countB
    rw [Bool.and_eq_true, decide_eq_true_eq, allIn_iff]
    refine ⟨by omega, fun z hz => ?_⟩
    obtain ⟨i, hi, rfl⟩ := List.getElem_of_mem hz
    have := h.rng i (by omega)
    rw [rd_nat x i hi] at this
    omega
  unfold countF
  rw [if_pos hc, hl]

structure NetD (n : Nat) (l : List (List Int)) : Prop where
  len : l.length = n
  row : ∀ r ∈ l, r.length = n ∧ ∀ x ∈ r, 0 ≤ x ∧ x ≤ 9
theorem cur_net (l : List Int) (a s : Int) (hl : bytesOk l) (ha : 0 ≤ a ∧ a ≤ 4611686018427300000) :
    ∃ (n : Nat) (r : List (List Int)) (a' s' : Int), Ev (fun k => spec_l1Cur_net.f k l a s) (r, a', s') ∧ (1 ≤ n ∧ n ≤ 9) ∧ NetD n r ∧ a ≤ a' ∧ a' ≤ a + 10000 := by
  have rowL : ∀ (n i : Nat) (xs : List (List Int)) (res : List (List Int) × Int × Int) (j d : Nat) (r : List Int) (a s : Int), j + d = n → r.length = j → (∀ x ∈ r, 0 ≤ x ∧ x ≤ 9) → i < n → n ≤ 9 → xs.length = i → (0 ≤ a ∧ a + 10 * d ≤ 4611686018427380000) →
      (∀ (r' : List Int) (a' s' : Int), r'.length = n → (∀ x ∈ r', 0 ≤ x ∧ x ≤ 9) → a ≤ a' → a' ≤ a + 10 * d → Ev (fun k => spec_l1Cur_net.l0 k (n : Int) (xs ++ [r']) ((i + 1 : Nat) : Int) l a' s') res → Ev (fun k => spec_l1Cur_net.l1 k (n : Int) xs (i : Int) r (j : Int) l a s) res) → True := fun _ _ _ _ _ _ _ _ _ _ _ _ _ _ _ _ _ => trivial
  have rowS : ∀ (n i : Nat) (xs : List (List Int)), i < n → n ≤ 9 → xs.length = i → ∀ (d j : Nat) (r : List Int) (a s : Int), j + d = n → r.length = j → (∀ x ∈ r, 0 ≤ x ∧ x ≤ 9) → (0 ≤ a ∧ a + 10 * d ≤ 4611686018427380000) →
      ∃ (r' : List Int) (a' s' : Int), r'.length = n ∧ (∀ x ∈ r', 0 ≤ x ∧ x ≤ 9) ∧ a ≤ a' ∧ a' ≤ a + 10 * d ∧ ∀ res, Ev (fun k => spec_l1Cur_net.l0 k (n : Int) (xs ++ [r']) ((i + 1 : Nat) : Int) l a' s') res → Ev (fun k => spec_l1Cur_net.l1 k (n : Int) xs (i : Int) r (j : Int) l a s) res := by
    intro n i xs hi hn hx d
    induction d with
    | zero =>
      intro j r a s hj hr hg ha
      refine ⟨r, a, s, by omega, hg, by omega, by omega, fun res hE => Ev.succ ?_⟩
      simp only [spec_l1Cur_net.l1]
      rw [w64 (x := (i : Int) + 1) (by omega) (by omega)]
      exact Ev.neg (by omega) (Ev.pos (by omega) hE)
    | succ d ih =>
      intro j r a s hj hr hg ha
      have go : ∀ (v a1 s1 : Int), 0 ≤ v ∧ v ≤ 9 → a ≤ a1 → a1 ≤ a + 10 → ∃ (r' : List Int) (a' s' : Int), r'.length = n ∧ (∀ x ∈ r', 0 ≤ x ∧ x ≤ 9) ∧ a ≤ a' ∧ a' ≤ a + 10 * ((d + 1 : Nat) : Int) ∧ ∀ res, Ev (fun k => spec_l1Cur_net.l0 k (n : Int) (xs ++ [r']) ((i + 1 : Nat) : Int) l a' s') res → Ev (fun k => spec_l1Cur_net.l1 k (n : Int) xs (i : Int) (r ++ [v]) (wrap64 ((j : Int) + 1)) l a1 s1) res := fun v a1 s1 hv h1 h2 => by
        obtain ⟨r', a', s', g1, g2, g3, g4, g5⟩ := ih (j + 1) (r ++ [v]) a1 s1 (by omega) (by simp; omega) (fun x hx => by
          rcases List.mem_append.mp hx with hx | hx
          · exact hg x hx
          · rw [List.mem_singleton] at hx; subst hx; exact hv) (by omega)
        refine ⟨r', a', s', g1, g2, by omega, by omega, fun res hE => ?_⟩
        rw [w64 (x := (j : Int) + 1) (by omega) (by omega)]
        exact g5 res hE
      by_cases e : (i : Int) = (j : Int)
      · obtain ⟨r', a', s', g1, g2, g3, g4, g5⟩ := go 0 a s (by omega) (by omega) (by omega)
        refine ⟨r', a', s', g1, g2, g3, g4, fun res hE => Ev.succ ?_⟩
        simp only [spec_l1Cur_net.l1]
        exact Ev.pos (by omega) (Ev.pos e (Ev.pos (by omega) (g5 res hE)))
      · obtain ⟨b, a1, s1, e1, b1, b2⟩ := cur_one l a s 2 hl (by omega)
        cases b with
        | true =>
          obtain ⟨p, a2, s2, e2, p0, p1, p2, p3⟩ := cur_pick l a1 s1 10 hl (by omega)
          obtain ⟨r', a', s', g1, g2, g3, g4, g5⟩ := go p a2 s2 (by omega) (by omega) (by omega)
          refine ⟨r', a', s', g1, g2, g3, g4, fun res hE => Ev.succ ?_⟩
          simp only [spec_l1Cur_net.l1]
          exact Ev.pos (by omega) (Ev.neg e (Ev.bind0 e1 (Ev.pos rfl (Ev.bind0 e2 (Ev.pos (by omega) (g5 res hE))))))
        | false =>
          obtain ⟨r', a', s', g1, g2, g3, g4, g5⟩ := go 0 a1 s1 (by omega) (by omega) (by omega)
          refine ⟨r', a', s', g1, g2, g3, g4, fun res hE => Ev.succ ?_⟩
          simp only [spec_l1Cur_net.l1]
          exact Ev.pos (by omega) (Ev.neg e (Ev.bind0 e1 (Ev.neg (by simp) (Ev.pos (by omega) (g5 res hE)))))
  have all : ∀ (n : Nat), 1 ≤ n → n ≤ 9 → ∀ (d i : Nat) (xs : List (List Int)) (a s : Int), i + d = n → xs.length = i → (∀ r ∈ xs, r.length = n ∧ ∀ x ∈ r, 0 ≤ x ∧ x ≤ 9) → (0 ≤ a ∧ a + 100 * d + 10 ≤ 4611686018427380000) →
      ∃ (r : List (List Int)) (a' s' : Int), Ev (fun k => spec_l1Cur_net.l0 k (n : Int) xs (i : Int) l a s) (r, a', s') ∧ NetD n r ∧ a ≤ a' ∧ a' ≤ a + 100 * d + 10 := by
    intro n h1 hn d
    induction d with
    | zero =>
      intro i xs a s hi hx hg ha
      obtain ⟨b, a1, s1, e1, b1, b2⟩ := cur_one l a s 30 hl (by omega)
      cases b with
      | true =>
        obtain ⟨p, a2, s2, e2, p0, p1, p2, p3⟩ := cur_pick l a1 s1 2 hl (by omega)
        have r0 : rd_L1 xs 0 = xs.getD 0 [] := rdL_getD xs 0
        have hx0 : 0 < xs.length := by omega
        have e0 : xs.getD 0 [] = xs[0] := by rw [List.getD_eq_getElem?_getD, List.getElem?_eq_getElem hx0]; rfl
        obtain ⟨q1, q2⟩ := hg xs[0] (List.getElem_mem hx0)
        refine ⟨xs.set (0 : Int).toNat ((xs.getD 0 []).set (0 : Int).toNat p), a2, s2, Ev.succ ?_, ⟨by simp; omega, fun r hr => ?_⟩, by omega, by omega⟩
        · simp only [spec_l1Cur_net.l0]
          rw [r0]
          exact Ev.neg (by omega) (Ev.bind0 e1 (Ev.pos rfl (Ev.pos (by omega) (Ev.bind0 e2 (Ev.pos (by rw [e0]; omega) (Ev.now _))))))
        · rcases List.mem_or_eq_of_mem_set hr with hr | hr
          · exact hg r hr
          · subst hr
            rw [e0]
            refine ⟨by simp; exact q1, fun x hx => ?_⟩
            rcases List.mem_or_eq_of_mem_set hx with hx | hx
            · exact q2 x hx
            · subst hx; omega
      | false =>
        refine ⟨xs, a1, s1, Ev.succ ?_, ⟨by omega, hg⟩, by omega, by omega⟩
        simp only [spec_l1Cur_net.l0]
        exact Ev.neg (by omega) (Ev.bind0 e1 (Ev.neg (by simp) (Ev.now _)))
    | succ d ih =>
      intro i xs a s hi hx hg ha
      obtain ⟨r', a1, s1, g1, g2, g3, g4, g5⟩ := rowS n i xs (by omega) hn hx n 0 [] a s (by omega) rfl (fun x hx => by cases hx) (by omega)
      obtain ⟨r, a2, s2, hE, h2, h3, h4⟩ := ih (i + 1) (xs ++ [r']) a1 s1 (by omega) (by simp; omega) (fun r hr => by
        rcases List.mem_append.mp hr with hr | hr
        · exact hg r hr
        · rw [List.mem_singleton] at hr; subst hr; exact ⟨g1, g2⟩) (by omega)
      refine ⟨r, a2, s2, Ev.succ ?_, h2, by omega, by omega⟩
      simp only [spec_l1Cur_net.l0]
      exact Ev.pos (by omega) (g5 _ hE)
  unfold spec_l1Cur_net.f
  obtain ⟨p, a1, s1, e1, p0, p1, p2, p3⟩ := cur_pick l a s 4 hl (by omega)
  obtain ⟨b, a2, s2, e2, b1, b2⟩ := cur_one l a1 s1 20 hl (by omega)
  cases b with
  | true =>
    obtain ⟨q, a3, s3, e3, q1, q2, q3⟩ := cur_among l a2 s2 [1, 8, 9] hl (by omega) (by simp)
    have hq : 1 ≤ q ∧ q ≤ 9 := by
      simp only [List.mem_cons, List.not_mem_nil, or_false] at q1
      omega
    obtain ⟨n, rfl⟩ := exists_nat_of_nonneg (show 0 ≤ q by omega)
    obtain ⟨r, a4, s4, hE, h2, h3, h4⟩ := all n (by omega) (by omega) n 0 [] a3 s3 (by omega) rfl (fun r hr => by cases hr) (by omega)
    refine ⟨n, r, a4, s4, Ev.bind0 e1 (Ev.bind0 e2 (Ev.pos rfl (Ev.bind0 e3 (Ev.succ ?_)))), ⟨by omega, by omega⟩, h2, by omega, by omega⟩
    simp only [spec_l1Cur_net.j0]; exact hE
  | false =>
    obtain ⟨n, hn⟩ := exists_nat_of_nonneg (show 0 ≤ 2 + p by omega)
    obtain ⟨r, a4, s4, hE, h2, h3, h4⟩ := all n (by omega) (by omega) n 0 [] a2 s2 (by omega) rfl (fun r hr => by cases hr) (by omega)
    refine ⟨n, r, a4, s4, Ev.bind0 e1 (Ev.bind0 e2 (Ev.neg (by simp) (Ev.succ ?_))), ⟨by omega, by omega⟩, h2, by omega, by omega⟩
    simp only [spec_l1Cur_net.j0]
    rw [w64 (by omega) (by omega), hn]; exact hE

theorem spec_l13Own_ev (f : List (List Int)) (h : f.length ≤ 1048576) (hg : ∀ r ∈ f, r.length ≤ 1048576) : Ev (fun k => spec_l13Own.f k f) f := by
  unfold spec_l13Own.f
  have key := ev_up f.length (fun k i => spec_l13Own.l0 k (f.take i) f (f.length : Int) (i : Int)) f (fun _ => True) trivial ?_ ?_
  · simpa using key
  · intro _
    refine Ev.succ ?_
    simp only [spec_l13Own.l0]
    rw [List.take_length]
    exact Ev.neg (by omega) (Ev.now _)
  · intro i hi _ hn
    have e : f.getD i [] = f[i] := by rw [List.getD_eq_getElem?_getD, List.getElem?_eq_getElem hi]; rfl
    have := hg f[i] (List.getElem_mem hi)
    refine Ev.succ ?_
    simp only [spec_l13Own.l0]
    rw [rdL_getD, e, w64 (x := (i : Int) + 1) (by omega) (by omega)]
    refine Ev.pos (by omega) (Ev.pos (by omega) (Ev.pos (by omega) (Ev.bind0 (a := []) rfl (Ev.pos (by simp; omega) (Ev.pos (by rw [List.length_take]; omega) ?_)))))
    rw [List.nil_append, ← List.take_succ_eq_append_getElem hi]
    exact hn trivial

theorem fl_rows {n : Nat} {w : Nat → Nat → Int} {f : List (List Int)} (h : IsFl n w f) : ∀ r ∈ f, r.length = n := fun r hr => by
  obtain ⟨i, hi, rfl⟩ := List.mem_iff_getElem.mp hr
  have := h.row i (by rw [← h.len]; exact hi)
  rw [List.getD_eq_getElem?_getD, List.getElem?_eq_getElem hi] at this
  exact this
theorem spec_PushWay_net {w f : List (List Int)} (hw : w.length ≤ 1048576) (hwg : ∀ r ∈ w, r.length ≤ 1048576) (hk : netOk w = true) (hf : netFlowOk w f = true) (hne : netWay (roomN w f) w.length ≠ []) :
    Ev (fun k => spec_PushWay.f k w f ((netWay (roomN w f) w.length).map fun y : Nat => (y : Int))) (pushW w f w.length, leastRoom (roomN w f) (netWay (roomN w f) w.length) 100 ((netWay (roomN w f) w.length).length - 1), true) := by
  obtain ⟨h1, sqw, bdw⟩ := netOk_rows hk
  obtain ⟨hl, fl, cons⟩ := netFlowOk_fl hf
  have rws := fl_rows fl
  obtain ⟨p, p2, p3⟩ := netWay_props _ w.length h1.1 hne
  have sqf := fl_sq sqw fl
  unfold spec_PushWay.f
  refine Ev.bind (spec_GoodNet_ev w hw hwg) (Ev.pos hk (Ev.bind (spec_l13Flow_ev hk f (by omega) (fun r hr => by rw [rws r hr]; omega)) (Ev.pos hf (Ev.neg (by rw [List.length_map]; omega) (Ev.pos (by rw [List.length_map]; omega) (Ev.pos ?_ (Ev.pos ?_ (Ev.pos ?_ ?_))))))))
  · have := wl_rd (netWay (roomN w f) w.length) 0 (by omega)
    rw [p.first] at this
    exact this
  · rw [List.length_map, w64 (by omega) (by omega)]; omega
  · rw [List.length_map, w64 (by omega) (by omega)]; omega
  · rw [List.length_map, w64 (x := ((netWay (roomN w f) w.length).length : Int) - 1) (by omega) (by omega), w64 (x := (w.length : Int) - 1) (by omega) (by omega), show ((netWay (roomN w f) w.length).length : Int) - 1 = (((netWay (roomN w f) w.length).length - 1 : Nat) : Int) by omega, wl_rd _ _ (by omega), p.last]
    refine Ev.succ ?_
    simp only [spec_PushWay.j0]
    refine Ev.neg (by simp; omega) ?_
    rw [List.length_map]
    have key := ev_up (netWay (roomN w f) w.length).length (fun k i => spec_PushWay.l0 k w f ((netWay (roomN w f) w.length).map fun y : Nat => (y : Int)) ((netWay (roomN w f) w.length).map fun y : Nat => (y : Int)) ((netWay (roomN w f) w.length).length : Int) (i : Int)) (pushW w f w.length, leastRoom (roomN w f) (netWay (roomN w f) w.length) 100 ((netWay (roomN w f) w.length).length - 1), true) (fun _ => True) trivial ?_ ?_
    · exact key
    · intro _
      refine Ev.succ ?_
      simp only [spec_PushWay.l0]
      exact Ev.neg (by omega) (Ev.bind (spec_l13Own_ev f (by omega) (fun r hr => by rw [rws r hr]; omega)) (Ev.bind (spec_l13Push_ev sqw fl p.lt p.nd p.room ⟨p2, by omega⟩) (Ev.now _)))
    · intro i hi _ hn
      have hn := hn trivial
      have hlt := p.lt i hi
      refine Ev.succ ?_
      simp only [spec_PushWay.l0]
      rw [wl_rd _ i hi, toNat_nat, List.length_map, w64 (x := (i : Int) + 1) (by omega) (by omega)]
      refine Ev.pos (by omega) (Ev.pos (by omega) (Ev.pos (by omega) (Ev.neg (by omega) (Ev.neg (by omega) (Ev.pos (by omega) (Ev.bind (spec_l1Has_ev _ _ (by rw [List.length_take, List.length_map]; omega)) (Ev.neg ?_ ?_)))))))
      · intro hd
        have hm := of_decide_eq_true hd
        obtain ⟨j, hj, e⟩ := List.mem_iff_getElem.mp hm
        rw [List.length_take, List.length_map] at hj
        rw [List.getElem_take, List.getElem_map] at e
        have := p.nd j i (by omega) hi (by
          rw [List.getD_eq_getElem?_getD, List.getElem?_eq_getElem (by omega)]
          show (netWay (roomN w f) w.length)[j] = _
          omega)
        omega
      · by_cases c : i = 0
        · exact Ev.neg (by omega) hn
        · have hr := p.room (i - 1) (by omega)
          rw [show i - 1 + 1 = i by omega] at hr
          refine Ev.pos (by omega) (Ev.pos (by rw [w64 (by omega) (by omega)]; omega) (Ev.pos (by rw [w64 (by omega) (by omega)]; omega) ?_))
          rw [w64 (x := (i : Int) - 1) (by omega) (by omega), show (i : Int) - 1 = ((i - 1 : Nat) : Int) by omega, wl_rd _ (i - 1) (by omega)]
          exact Ev.bind0 (spec_l13Room_eq sqw sqf _ _ (p.lt (i - 1) (by omega)) hlt) (Ev.neg (by omega) hn)

theorem cur_netFlow (l : List Int) (a s : Int) (hl : bytesOk l) (ha : 0 ≤ a ∧ a ≤ 4611686018427200000) :
    ∃ (n : Nat) (w f : List (List Int)) (a' s' : Int), Ev (fun k => spec_l1Cur_netFlow.f k l a s) (w, f, a', s') ∧ (1 ≤ n ∧ n ≤ 9) ∧ NetD n w ∧ f.length = n ∧ (∀ r ∈ f, r.length = n) ∧ a ≤ a' ∧ a' ≤ a + 20000 := by
  obtain ⟨n, w, a1, s1, e1, hn, hw, h3, h4⟩ := cur_net l a s hl (by omega)
  have hwg : ∀ r ∈ w, r.length ≤ 1048576 := fun r hr => by have := (hw.row r hr).1; omega
  have wl := hw.len
  -- the end
  have fin : ∀ (f : List (List Int)) (a s : Int), f.length = n → (∀ r ∈ f, r.length = n) → (0 ≤ a ∧ a ≤ 4611686018427300000) → ∃ (f' : List (List Int)) (a' s' : Int), Ev (fun k => spec_l1Cur_netFlow.j2 k w f l a s) (w, f', a', s') ∧ f'.length = n ∧ (∀ r ∈ f', r.length = n) ∧ a ≤ a' ∧ a' ≤ a + 10 := by
    intro f a s hf hg ha
    by_cases c : (f.length : Int) > 1
    · obtain ⟨b, a2, s2, e2, b1, b2⟩ := cur_one l a s 8 hl (by omega)
      cases b with
      | true =>
        obtain ⟨p, a3, s3, e3, p0, p1, p2, p3⟩ := cur_pick l a2 s2 3 hl (by omega)
        have r0 : rd_L1 f 0 = f.getD 0 [] := rdL_getD f 0
        have hf0 : 0 < f.length := by omega
        have e0 : f.getD 0 [] = f[0] := by rw [List.getD_eq_getElem?_getD, List.getElem?_eq_getElem hf0]; rfl
        have q1 := hg f[0] (List.getElem_mem hf0)
        refine ⟨f.set (0 : Int).toNat ((f.getD 0 []).set (1 : Int).toNat (wrap64 ((rd (f.getD 0 []) 1) + (wrap64 (p - 1))))), a3, s3, Ev.succ ?_, ?_, ?_, by omega, by omega⟩
        · simp only [spec_l1Cur_netFlow.j2]
          rw [r0]
          exact Ev.pos c (Ev.bind0 e2 (Ev.pos rfl (Ev.pos (by omega) (Ev.pos (by rw [e0]; omega) (Ev.bind0 e3 (Ev.now _))))))
        · simp; exact hf
        · intro r hr
          rcases List.mem_or_eq_of_mem_set hr with hr | hr
          · exact hg r hr
          · subst hr; rw [e0]; simp; exact q1
      | false =>
        refine ⟨f, a2, s2, Ev.succ ?_, hf, hg, by omega, by omega⟩
        simp only [spec_l1Cur_netFlow.j2]
        exact Ev.pos c (Ev.bind0 e2 (Ev.neg (by simp) (Ev.now _)))
    · refine ⟨f, a, s, Ev.succ ?_, hf, hg, by omega, by omega⟩
      simp only [spec_l1Cur_netFlow.j2]
      exact Ev.neg c (Ev.now _)
  have loop : ∀ (d : Nat), d ≤ 10 → ∀ (f : List (List Int)) (a s : Int), f.length = n → (∀ r ∈ f, r.length = n) → (0 ≤ a ∧ a ≤ 4611686018427300000) → ∃ (f' : List (List Int)) (a' s' : Int), Ev (fun k => spec_l1Cur_netFlow.l1 k w f (d : Int) l a s) (w, f', a', s') ∧ f'.length = n ∧ (∀ r ∈ f', r.length = n) ∧ a ≤ a' ∧ a' ≤ a + 10 := by
    intro d
    induction d with
    | zero =>
      intro _ f a s hf hg ha
      obtain ⟨f', a', s', hE, g1, g2, g3, g4⟩ := fin f a s hf hg ha
      refine ⟨f', a', s', Ev.succ ?_, g1, g2, g3, g4⟩
      simp only [spec_l1Cur_netFlow.l1]
      exact Ev.neg (by omega) hE
    | succ d ih =>
      intro hd f a s hf hg ha
      have nx := spec_NextWay_ev w f (by omega) hwg (by omega) (fun r hr => by rw [hg r hr]; omega)
      by_cases c : netOk w = true ∧ netFlowOk w f = true
      · by_cases e : netWay (roomN w f) w.length = []
        · obtain ⟨f', a', s', hE, g1, g2, g3, g4⟩ := fin f a s hf hg ha
          refine ⟨f', a', s', Ev.succ ?_, g1, g2, g3, g4⟩
          simp only [spec_l1Cur_netFlow.l1]
          refine Ev.pos (by omega) (Ev.bind nx ?_)
          unfold nextFF
          rw [if_pos c]
          exact Ev.pos rfl (Ev.neg (by simp [e]) hE)
        · obtain ⟨h1, sqw, bdw⟩ := netOk_rows c.1
          obtain ⟨_, fl, cons⟩ := netFlowOk_fl c.2
          obtain ⟨g1, g2, g3, g4⟩ := pushW_ok h1.1 fl cons e
          have gr := fl_rows g1
          rw [wl] at g1 gr
          obtain ⟨f', a', s', hE, k1, k2, k3, k4⟩ := ih (by omega) (pushW w f w.length) a s (by rw [wl]; exact g1.len) (by rw [wl]; exact gr) ha
          refine ⟨f', a', s', Ev.succ ?_, k1, k2, k3, k4⟩
          simp only [spec_l1Cur_netFlow.l1]
          rw [w64 (x := ((d + 1 : Nat) : Int) - 1) (by omega) (by omega), show ((d + 1 : Nat) : Int) - 1 = (d : Int) by omega]
          refine Ev.pos (by omega) (Ev.bind nx ?_)
          unfold nextFF
          rw [if_pos c]
          exact Ev.pos rfl (Ev.pos (by simp [e]) (Ev.bind (spec_PushWay_net (by omega) hwg c.1 c.2 e) hE))
      · obtain ⟨f', a', s', hE, g1, g2, g3, g4⟩ := fin f a s hf hg ha
        refine ⟨f', a', s', Ev.succ ?_, g1, g2, g3, g4⟩
        simp only [spec_l1Cur_netFlow.l1]
        refine Ev.pos (by omega) (Ev.bind nx ?_)
        unfold nextFF
        rw [if_neg c]
        exact Ev.neg (by simp) hE
  obtain ⟨p, a2, s2, e2, p0, p1, p2, p3⟩ := cur_pick l a1 s1 4 hl (by omega)
  obtain ⟨m, rfl⟩ := exists_nat_of_nonneg p0
  obtain ⟨f', a', s', hE, g1, g2, g3, g4⟩ := loop m (by omega) (List.replicate n (List.replicate n 0)) a2 s2 (by simp) (fun r hr => by rw [List.eq_of_mem_replicate hr]; simp) (by omega)
  refine ⟨n, w, f', a', s', ?_, hn, hw, g1, g2, by omega, by omega⟩
  unfold spec_l1Cur_netFlow.f
  refine Ev.bind e1 ?_
  dsimp only
  rw [wl]
  have key := ev_up n (fun k i => spec_l1Cur_netFlow.l0 k w (List.replicate i (List.replicate n 0)) (n : Int) (i : Int) l a1 s1) (w, f', a', s') (fun _ => True) trivial ?_ ?_
  · simpa using key
  · intro _
    refine Ev.succ ?_
    simp only [spec_l1Cur_netFlow.l0]
    exact Ev.neg (by omega) (Ev.bind0 e2 hE)
  · intro i hi _ hnx
    refine Ev.succ ?_
    simp only [spec_l1Cur_netFlow.l0]
    rw [wl, toNat_nat, w64 (x := (i : Int) + 1) (by omega) (by omega), ← List.replicate_succ']
    exact Ev.pos (by omega) (Ev.pos (by omega) (Ev.pos (by omega) (Ev.pos (by simp; omega) (hnx trivial))))

theorem ev_all2 {β : Type} (n : Nat) (P : Nat → Bool) (g : Nat → Nat → Option β) (yes no : β)
    (hs : ∀ r i, i < n → (∀ j, j < i → P j = true) → P i = true → Ev (fun k => g k (i + 1)) r → Ev (fun k => g k i) r) (hno : ∀ i, i < n → (∀ j, j < i → P j = true) → P i = false → Ev (fun k => g k i) no)
    (hyes : (∀ i, i < n → P i = true) → Ev (fun k => g k n) yes) : Ev (fun k => g k 0) (if allTo P n = true then yes else no) := by
  have gen : ∀ (d i : Nat), i + d = n → (∀ j, j < i → P j = true) → Ev (fun k => g k i) (if allTo P n = true then yes else no) := by
    intro d
    induction d with
    | zero =>
      intro i hi hp
      obtain rfl : i = n := by omega
      rw [if_pos ((allTo_iff _ _).mpr hp)]
      exact hyes hp
    | succ d ih =>
      intro i hi hp
      cases c : P i with
      | true => exact hs _ i (by omega) hp c (ih (i + 1) (by omega) (fun j hj => by
          by_cases e : j = i
          · subst e; exact c
          · exact hp j (by omega)))
      | false =>
        rw [if_neg (fun h => by have := (allTo_iff _ _).mp h i (by omega); rw [c] at this; cases this)]
        exact hno i (by omega) hp c
  exact gen n 0 (by omega) (fun j hj => absurd hj (by omega))

def stepOk (w f : List (List Int)) (way : List Int) (i : Nat) : Bool := (decide (0 ≤ rd way (i : Int)) && decide (rd way (i : Int) < (w.length : Int))) && (!decide (rd way (i : Int) ∈ way.take i) && (decide (i = 0) || decide (0 < roomN w f (rd way ((i - 1 : Nat) : Int)).toNat (rd way (i : Int)).toNat)))
def pushOk (w f : List (List Int)) (way : List Int) : Bool := (netOk w && netFlowOk w f) && (decide (2 ≤ way.length) && (decide (rd way 0 = 0) && (decide (rd way ((way.length - 1 : Nat) : Int) = ((w.length - 1 : Nat) : Int)) && allTo (stepOk w f way) way.length)))
def hallsOf (way : List Int) : List Nat := way.map Int.toNat
def pushM (w f : List (List Int)) (way : List Int) : Int := leastRoom (roomN w f) (hallsOf way) 100 (way.length - 1)
def pushFF (w f : List (List Int)) (way : List Int) : List (List Int) × Int × Bool := if pushOk w f way = true then (pushTo (pushM w f way) (hallsOf way) f (way.length - 1), pushM w f way, true) else ([], 0, false)
theorem halls_at (way : List Int) (i : Nat) (hi : i < way.length) : (hallsOf way).getD i 0 = (rd way (i : Int)).toNat := by
  unfold hallsOf
  rw [List.getD_eq_getElem?_getD, List.getElem?_map, List.getElem?_eq_getElem hi, rd_nat way i hi]; rfl
theorem pushOk_props {w f : List (List Int)} {way : List Int} (h : pushOk w f way = true) : netOk w = true ∧ netFlowOk w f = true ∧ 2 ≤ way.length ∧ WayP (roomN w f) w.length (w.length - 1) (hallsOf way) ∧ (hallsOf way).length = way.length ∧ (hallsOf way).map (fun y : Nat => (y : Int)) = way := by
  unfold pushOk at h
  simp only [Bool.and_eq_true, decide_eq_true_eq] at h
  obtain ⟨⟨h1, h2⟩, h3, h4, h5, h6⟩ := h
  have hlen : (hallsOf way).length = way.length := by simp [hallsOf]
  have st := (allTo_iff _ _).mp h6
  have sp : ∀ i, i < way.length → (0 ≤ rd way (i : Int) ∧ rd way (i : Int) < (w.length : Int)) ∧ ¬ rd way (i : Int) ∈ way.take i ∧ (i = 0 ∨ 0 < roomN w f (rd way ((i - 1 : Nat) : Int)).toNat (rd way (i : Int)).toNat) := fun i hi => by
    have := st i hi
    unfold stepOk at this
    simp only [Bool.and_eq_true, Bool.or_eq_true, Bool.not_eq_true', decide_eq_true_eq, decide_eq_false_iff_not] at this
    exact ⟨this.1, this.2.1, this.2.2⟩
  have nd : ∀ i j, i < j → j < way.length → rd way (i : Int) ≠ rd way (j : Int) := fun i j hij hj e => by
    refine (sp j hj).2.1 ?_
    rw [← e, List.mem_iff_getElem]
    exact ⟨i, by rw [List.length_take]; omega, by rw [List.getElem_take, rd_nat way i (by omega)]⟩
  refine ⟨h1, h2, h3, ⟨by omega, ?_, ?_, fun i hi => ?_, fun i j hi hj e => ?_, fun j hj => ?_⟩, hlen, ?_⟩
  · rw [halls_at way 0 (by omega), show ((0 : Nat) : Int) = 0 from rfl, h4]; rfl
  · rw [hlen, halls_at way _ (by omega), h5, Int.toNat_natCast]
  · rw [hlen] at hi
    rw [halls_at way i hi]
    have := (sp i hi).1
    omega
  · rw [hlen] at hi hj
    rw [halls_at way i hi, halls_at way j hj] at e
    have a1 := (sp i hi).1
    have a2 := (sp j hj).1
    rcases Nat.lt_trichotomy i j with c | c | c
    · exact absurd (by omega) (nd i j c hj)
    · exact c
    · exact absurd (by omega) (nd j i c hi)
  · rw [hlen] at hj
    rw [halls_at way j (by omega), halls_at way (j + 1) hj]
    have := (sp (j + 1) hj).2.2
    rw [show j + 1 - 1 = j by omega] at this
    rcases this with c | c
    · omega
    · exact c
  · unfold hallsOf
    rw [List.map_map]
    conv => rhs; rw [← List.map_id way]
    refine List.map_congr_left fun x hx => ?_
    obtain ⟨i, hi, rfl⟩ := List.mem_iff_getElem.mp hx
    have := (sp i hi).1
    rw [rd_nat way i hi] at this
    show ((way[i].toNat : Nat) : Int) = way[i]
    omega

theorem spec_PushWay_ev (w f : List (List Int)) (way : List Int) (hw : w.length ≤ 1048576) (hwg : ∀ r ∈ w, r.length ≤ 1048576) (h : f.length ≤ 1048576) (hg : ∀ r ∈ f, r.length ≤ 1048576) (hl : way.length ≤ 1000) : Ev (fun k => spec_PushWay.f k w f way) (pushFF w f way) := by
  have no : ∀ x : Bool, x = true → pushOk w f way = false → Ev (fun k => spec_PushWay.j0 k w f way x) (pushFF w f way) := fun x hx hc => by
    refine Ev.succ ?_
    simp only [spec_PushWay.j0]
    refine Ev.pos hx (Ev.to (Ev.now _) ?_)
    unfold pushFF; rw [hc]; rfl
  unfold spec_PushWay.f
  refine Ev.bind (spec_GoodNet_ev w hw hwg) (Ev.ite (fun hk => ?_) (fun hk => no _ rfl (by unfold pushOk; rw [Bool.eq_false_iff.mpr hk]; simp)))
  refine Ev.bind (spec_l13Flow_ev hk f h hg) (Ev.ite (fun hf => ?_) (fun hf => no _ rfl (by unfold pushOk; rw [Bool.eq_false_iff.mpr hf]; simp)))
  obtain ⟨h1, sqw, bdw⟩ := netOk_rows hk
  obtain ⟨_, fl, _⟩ := netFlowOk_fl hf
  have sqf := fl_sq sqw fl
  have rws := fl_rows fl
  refine Ev.ite (fun c => no _ rfl (by unfold pushOk; rw [decide_eq_false (show ¬ 2 ≤ way.length by omega)]; simp)) (fun c => Ev.pos (by omega) ?_)
  refine Ev.ite (fun z => ?_) (fun z => no _ rfl (by unfold pushOk; rw [decide_eq_false z]; simp))
  rw [w64 (x := (way.length : Int) - 1) (by omega) (by omega), w64 (x := (w.length : Int) - 1) (by omega) (by omega), show (way.length : Int) - 1 = ((way.length - 1 : Nat) : Int) by omega, show (w.length : Int) - 1 = ((w.length - 1 : Nat) : Int) by omega]
  refine Ev.pos (by omega) (Ev.pos (by omega) ?_)
  by_cases e : rd way ((way.length - 1 : Nat) : Int) = ((w.length - 1 : Nat) : Int)
  · have po : pushOk w f way = allTo (stepOk w f way) way.length := by
      unfold pushOk
      rw [hk, hf, decide_eq_true (show 2 ≤ way.length by omega), decide_eq_true z, decide_eq_true e]; rfl
    refine Ev.succ ?_
    simp only [spec_PushWay.j0]
    refine Ev.neg (by rw [e]; simp) ?_
    unfold pushFF
    rw [po]
    have rng : ∀ i, stepOk w f way i = true → 0 ≤ rd way (i : Int) ∧ rd way (i : Int) < (w.length : Int) := fun i hp => by
      unfold stepOk at hp
      simp only [Bool.and_eq_true, decide_eq_true_eq] at hp
      exact hp.1
    have rm : ∀ i, 0 < i → stepOk w f way (i - 1) = true → 0 ≤ rd way (i : Int) → rd way (i : Int) < (w.length : Int) → spec_l13Room.f w f (rd way ((i - 1 : Nat) : Int)) (rd way (i : Int)) = some (roomN w f (rd way ((i - 1 : Nat) : Int)).toNat (rd way (i : Int)).toNat) := fun i hi hp a1 a2 => by
      obtain ⟨b1, b2⟩ := rng _ hp
      have := spec_l13Room_eq sqw sqf (rd way ((i - 1 : Nat) : Int)).toNat (rd way (i : Int)).toNat (by omega) (by omega)
      rw [Int.toNat_of_nonneg b1, Int.toNat_of_nonneg a1] at this
      exact this
    refine ev_all2 way.length (stepOk w f way) (fun k i => spec_PushWay.l0 k w f way way (way.length : Int) (i : Int)) _ _ ?_ ?_ ?_
    · intro r i hi hpr hp hn
      have hp' := hp
      unfold stepOk at hp'
      simp only [Bool.and_eq_true, Bool.or_eq_true, Bool.not_eq_true', decide_eq_true_eq, decide_eq_false_iff_not] at hp'
      obtain ⟨⟨a1, a2⟩, a3, a4⟩ := hp'
      refine Ev.succ ?_
      simp only [spec_PushWay.l0]
      rw [toNat_nat, w64 (x := (i : Int) + 1) (by omega) (by omega)]
      refine Ev.pos (by omega) (Ev.pos (by omega) (Ev.pos (by omega) (Ev.neg (by omega) (Ev.neg (by omega) (Ev.pos (by omega) (Ev.bind (spec_l1Has_ev _ _ (by rw [List.length_take]; omega)) (Ev.neg (by rw [decide_eq_false a3]; simp) ?_)))))))
      by_cases d : i = 0
      · exact Ev.neg (by omega) hn
      · rcases a4 with a4 | a4
        · exact absurd a4 d
        · rw [w64 (x := (i : Int) - 1) (by omega) (by omega), show (i : Int) - 1 = ((i - 1 : Nat) : Int) by omega]
          exact Ev.pos (by omega) (Ev.pos (by omega) (Ev.pos (by omega) (Ev.bind0 (rm i (by omega) (hpr (i - 1) (by omega)) a1 a2) (Ev.neg (by omega) hn))))
    · intro i hi hpr hp
      unfold stepOk at hp
      refine Ev.succ ?_
      simp only [spec_PushWay.l0]
      rw [toNat_nat]
      refine Ev.pos (by omega) (Ev.pos (by omega) (Ev.pos (by omega) (Ev.ite (fun _ => Ev.now _) (fun a1 => Ev.ite (fun _ => Ev.now _) (fun a2 => Ev.pos (by omega) (Ev.bind (spec_l1Has_ev _ _ (by rw [List.length_take]; omega)) (Ev.ite (fun _ => Ev.now _) (fun a3 => ?_))))))))
      rw [decide_eq_true (show 0 ≤ rd way (i : Int) by omega), decide_eq_true (show rd way (i : Int) < (w.length : Int) by omega), Bool.eq_false_iff.mpr a3] at hp
      simp only [Bool.true_and, Bool.not_false, Bool.or_eq_false_iff, decide_eq_false_iff_not] at hp
      rw [w64 (x := (i : Int) - 1) (by omega) (by omega), show (i : Int) - 1 = ((i - 1 : Nat) : Int) by omega]
      exact Ev.pos (by omega) (Ev.pos (by omega) (Ev.pos (by omega) (Ev.bind0 (rm i (by omega) (hpr (i - 1) (by omega)) (by omega) (by omega)) (Ev.pos (by omega) (Ev.now _)))))
    · intro hall
      have hpo : pushOk w f way = true := by rw [po]; exact (allTo_iff _ _).mpr hall
      obtain ⟨_, _, g3, p, g5, g6⟩ := pushOk_props hpo
      refine Ev.succ ?_
      simp only [spec_PushWay.l0]
      have hp := spec_l13Push_ev sqw fl p.lt p.nd p.room ⟨by omega, by omega⟩
      rw [g6, g5] at hp
      exact Ev.neg (by omega) (Ev.bind (spec_l13Own_ev f h hg) (Ev.bind hp (Ev.now _)))
  · exact no _ (by simpa using e) (by unfold pushOk; rw [decide_eq_false e]; simp)

theorem impl_PushWay_ev (w f : List (List Int)) (way : List Int) (hw : w.length ≤ 1048576) (hwg : ∀ r ∈ w, r.length ≤ 1048576) (h : f.length ≤ 1048576) (hg : ∀ r ∈ f, r.length ≤ 1048576) (hl : way.length ≤ 1000) : Ev (fun k => impl_PushWay.f k w f way) (pushFF w f way) := by
  have no : ∀ x : Bool, x = true → pushOk w f way = false → Ev (fun k => impl_PushWay.j0 k w f way x) (pushFF w f way) := fun x hx hc => by
    refine Ev.succ ?_
    simp only [impl_PushWay.j0]
    refine Ev.pos hx (Ev.to (Ev.now _) ?_)
    unfold pushFF; rw [hc]; rfl
  unfold impl_PushWay.f
  refine Ev.bind (impl_isFlowing_ev w f hw hwg h hg) (Ev.ite (fun hb => ?_) (fun hb => no _ rfl (by unfold pushOk; rw [Bool.eq_false_iff.mpr hb]; rfl)))
  simp only [Bool.and_eq_true] at hb
  obtain ⟨hk, hf⟩ := hb
  obtain ⟨h1, sqw, bdw⟩ := netOk_rows hk
  obtain ⟨_, fl, _⟩ := netFlowOk_fl hf
  have sqf := fl_sq sqw fl
  rw [w64 (x := (w.length : Int) - 1) (by omega) (by omega)]
  refine Ev.ite (fun c => no _ rfl (by unfold pushOk; rw [decide_eq_false (show ¬ 2 ≤ way.length by omega)]; simp)) (fun c => Ev.bind (impl_allWithin_ev way 0 ((w.length : Int) - 1) (by omega)) ?_)
  refine Ev.ite (fun hin => ?_) (fun hin => no _ rfl ?_)
  · have rng : ∀ i : Nat, i < way.length → 0 ≤ rd way (i : Int) ∧ rd way (i : Int) < (w.length : Int) := fun i hi => by
      have := (allIn_iff _ _ _).mp hin way[i] (List.getElem_mem hi)
      rw [rd_nat way i hi]; omega
    refine Ev.pos (by omega) (Ev.ite (fun z => ?_) (fun z => no _ rfl (by unfold pushOk; rw [decide_eq_false z]; simp)))
    rw [w64 (x := (way.length : Int) - 1) (by omega) (by omega), show (way.length : Int) - 1 = ((way.length - 1 : Nat) : Int) by omega, show (w.length : Int) - 1 = ((w.length - 1 : Nat) : Int) by omega]
    refine Ev.pos (by omega) (Ev.pos (by omega) ?_)
    by_cases e : rd way ((way.length - 1 : Nat) : Int) = ((w.length - 1 : Nat) : Int)
    · have po : pushOk w f way = allTo (stepOk w f way) way.length := by
        unfold pushOk
        rw [hk, hf, decide_eq_true (show 2 ≤ way.length by omega), decide_eq_true z, decide_eq_true e]; rfl
      refine Ev.succ ?_
      simp only [impl_PushWay.j0]
      refine Ev.neg (by rw [e]; simp) ?_
      unfold pushFF
      rw [po]
      have rm : ∀ i, 0 < i → i < way.length → impl_room.f w f (rd way ((i - 1 : Nat) : Int)) (rd way (i : Int)) = some (roomN w f (rd way ((i - 1 : Nat) : Int)).toNat (rd way (i : Int)).toNat) := fun i hi hi2 => by
        obtain ⟨b1, b2⟩ := rng (i - 1) (by omega)
        obtain ⟨a1, a2⟩ := rng i hi2
        have := impl_room_eq sqw sqf (rd way ((i - 1 : Nat) : Int)).toNat (rd way (i : Int)).toNat (by omega) (by omega)
        rw [Int.toNat_of_nonneg b1, Int.toNat_of_nonneg a1] at this
        exact this
      refine ev_all2 way.length (stepOk w f way) (fun k i => impl_PushWay.l0 k w f way (way.length : Int) (i : Int)) _ _ ?_ ?_ ?_
      · intro r i hi hpr hp hn
        unfold stepOk at hp
        simp only [Bool.and_eq_true, Bool.or_eq_true, Bool.not_eq_true', decide_eq_true_eq, decide_eq_false_iff_not] at hp
        obtain ⟨⟨a1, a2⟩, a3, a4⟩ := hp
        refine Ev.succ ?_
        simp only [impl_PushWay.l0]
        rw [toNat_nat, w64 (x := (i : Int) + 1) (by omega) (by omega)]
        refine Ev.pos (by omega) (Ev.pos (by omega) (Ev.pos (by omega) (Ev.pos (by omega) (Ev.bind (slices_Contains_ev _ _ (by rw [List.length_take]; omega)) (Ev.neg (by rw [decide_eq_false a3]; simp) ?_)))))
        by_cases d : i = 0
        · exact Ev.neg (by omega) hn
        · rcases a4 with a4 | a4
          · exact absurd a4 d
          · rw [w64 (x := (i : Int) - 1) (by omega) (by omega), show (i : Int) - 1 = ((i - 1 : Nat) : Int) by omega]
            exact Ev.pos (by omega) (Ev.pos (by omega) (Ev.pos (by omega) (Ev.bind0 (rm i (by omega) hi) (Ev.neg (by omega) hn))))
      · intro i hi hpr hp
        obtain ⟨b1, b2⟩ := rng i hi
        unfold stepOk at hp
        refine Ev.succ ?_
        simp only [impl_PushWay.l0]
        rw [toNat_nat]
        refine Ev.pos (by omega) (Ev.pos (by omega) (Ev.pos (by omega) (Ev.pos (by omega) (Ev.bind (slices_Contains_ev _ _ (by rw [List.length_take]; omega)) (Ev.ite (fun _ => Ev.now _) (fun a3 => ?_))))))
        rw [decide_eq_true b1, decide_eq_true b2, Bool.eq_false_iff.mpr a3] at hp
        simp only [Bool.true_and, Bool.not_false, Bool.or_eq_false_iff, decide_eq_false_iff_not] at hp
        rw [w64 (x := (i : Int) - 1) (by omega) (by omega), show (i : Int) - 1 = ((i - 1 : Nat) : Int) by omega]
        exact Ev.pos (by omega) (Ev.pos (by omega) (Ev.pos (by omega) (Ev.bind0 (rm i (by omega) hi) (Ev.pos (by omega) (Ev.now _)))))
      · intro hall
        have hpo : pushOk w f way = true := by rw [po]; exact (allTo_iff _ _).mpr hall
        obtain ⟨_, _, g3, p, g5, g6⟩ := pushOk_props hpo
        refine Ev.succ ?_
        simp only [impl_PushWay.l0]
        have hp := impl_pushed_ev (by omega) sqw fl p.lt p.nd p.room ⟨by omega, by omega⟩
        have em : leastRoom (roomN w f) (hallsOf way) 2500 ((hallsOf way).length - 1) = leastRoom (roomN w f) (hallsOf way) 100 ((hallsOf way).length - 1) := by
          obtain ⟨t, ht⟩ : ∃ t, (hallsOf way).length - 1 = t + 1 := ⟨(hallsOf way).length - 2, by omega⟩
          rw [ht]
          refine leastRoom_eq _ _ _ _ t (fun j hj => ?_)
          have := room_le (fun a b ha hb => (bdw a b ha hb).2) fl _ _ (p.lt j (by omega)) (p.lt (j + 1) (by omega))
          omega
        rw [em, g6, g5] at hp
        exact Ev.neg (by omega) (Ev.bind hp (Ev.now _))
    · exact no _ (by simpa using e) (by unfold pushOk; rw [decide_eq_false e]; simp)
  · have : ¬ allTo (stepOk w f way) way.length = true := fun z => hin ((allIn_iff _ _ _).mpr fun x hx => by
      obtain ⟨i, hi, rfl⟩ := List.mem_iff_getElem.mp hx
      have := (allTo_iff _ _).mp z i hi
      unfold stepOk at this
      simp only [Bool.and_eq_true, decide_eq_true_eq] at this
      have := this.1
      rw [rd_nat way i hi] at this
      omega)
    unfold pushOk
    rw [Bool.eq_false_iff.mpr this]; simp

theorem laws_sameRows_ev (l : List (List Int)) (hl : l.length ≤ 1048576) (hr : ∀ r ∈ l, r.length ≤ 1048576) : Ev (fun k => laws_sameRows.f k l l) true := by
  unfold laws_sameRows.f
  refine Ev.pos rfl ?_
  refine ev_up l.length (fun k i => laws_sameRows.l0 k l l (l.length : Int) (i : Int)) _ (fun _ => True) trivial ?_ ?_
  · intro _; refine Ev.succ ?_; simp only [laws_sameRows.l0]; exact Ev.neg (by omega) (Ev.now _)
  · intro i hi _ hn
    refine Ev.succ ?_
    simp only [laws_sameRows.l0]
    rw [rdL_nat l i hi, w64 (x := (i : Int) + 1) (by omega) (by omega)]
    have := hr l[i] (List.getElem_mem hi)
    exact Ev.pos (by omega) (Ev.pos (by omega) (Ev.pos (by omega) (Ev.pos (by omega) (Ev.bind (laws_same_ev _ (by omega)) (Ev.pos rfl (hn trivial))))))

theorem spec_DrawIsFlow_ev (l : List Int) (hl : bytesOk l) : ∃ (n : Nat) (w f : List (List Int)), Ev (fun k => spec_DrawIsFlow.f k l) (w, f) ∧ (1 ≤ n ∧ n ≤ 9) ∧ NetD n w ∧ f.length = n ∧ (∀ r ∈ f, r.length = n) := by
  obtain ⟨n, w, f, a', s', e, h1, h2, h3, h4, _⟩ := cur_netFlow l 0 0 hl (by omega)
  unfold spec_DrawIsFlow.f
  exact ⟨n, w, f, Ev.bind e (Ev.now _), h1, h2, h3, h4⟩
theorem spec_DrawPushWay_ev (l : List Int) (hl : bytesOk l) : ∃ (n : Nat) (w f : List (List Int)) (way : List Int), Ev (fun k => spec_DrawPushWay.f k l) (w, f, way) ∧ (1 ≤ n ∧ n ≤ 9) ∧ NetD n w ∧ f.length = n ∧ (∀ r ∈ f, r.length = n) ∧ way.length ≤ 100 := by
  obtain ⟨n, w, f, a', s', e, h1, h2, h3, h4, h5, h6⟩ := cur_netFlow l 0 0 hl (by omega)
  have hwg : ∀ r ∈ w, r.length ≤ 1048576 := fun r hr => by have := (h2.row r hr).1; omega
  have nx := spec_NextWay_ev w f (by have := h2.len; omega) hwg (by omega) (fun r hr => by rw [h4 r hr]; omega)
  obtain ⟨b, a2, s2, e2, _, _⟩ := cur_one l a' s' 6 hl (by omega)
  unfold spec_DrawPushWay.f
  cases b with
  | true =>
    obtain ⟨p, a3, s3, e3, _⟩ := cur_pick l a2 s2 5 hl (by omega)
    exact ⟨n, w, f, _, Ev.bind e (Ev.bind nx (Ev.bind0 e2 (Ev.pos rfl (Ev.bind0 e3 (Ev.now _))))), h1, h2, h3, h4, by simp⟩
  | false =>
    refine ⟨n, w, f, (nextFF w f).1, Ev.bind e (Ev.bind nx (Ev.bind0 e2 (Ev.neg (by simp) (Ev.now _)))), h1, h2, h3, h4, ?_⟩
    unfold nextFF
    split
    · rename_i c
      obtain ⟨g1, _, _⟩ := netOk_rows c.1
      rw [List.length_map]
      by_cases e0 : netWay (roomN w f) w.length = []
      · rw [e0]; simp
      · obtain ⟨_, _, g3⟩ := netWay_props _ w.length g1.1 e0
        omega
    · simp

theorem fl_ok {w f : List (List Int)} (hk : netOk w = true) (h : IsFl w.length (ent w) f) (hc : Cons w.length f) : rowsOk f = true ∧ netFlowOk w f = true := by
  obtain ⟨h1, sq, bd⟩ := netOk_rows hk
  have hl := h.len
  have rws : ∀ r ∈ f, r.length = w.length := fun r hr => by
    obtain ⟨i, hi, rfl⟩ := List.mem_iff_getElem.mp hr
    have := h.row i (by rw [← hl]; exact hi)
    rw [List.getD_eq_getElem?_getD, List.getElem?_eq_getElem hi] at this
    exact this
  have ro : rowsOk f = true := by
    unfold rowsOk
    simp only [Bool.and_eq_true, decide_eq_true_eq, List.all_eq_true]
    refine ⟨by omega, fun r hr => ?_⟩
    unfold netRow
    simp only [Bool.and_eq_true, decide_eq_true_eq]
    refine ⟨by rw [rws r hr, hl], (allIn_iff _ _ _).mpr fun x hx => ?_⟩
    obtain ⟨i, hi, rfl⟩ := List.mem_iff_getElem.mp hr
    obtain ⟨j, hj, rfl⟩ := List.mem_iff_getElem.mp hx
    have hjn : j < w.length := by rw [← rws _ hr]; exact hj
    have b1 := h.lo i j (by omega) hjn
    have b2 := bd i j (by omega) hjn
    have e : ent f i j = f[i][j] := by
      unfold ent
      rw [List.getD_eq_getElem?_getD, List.getElem?_eq_getElem hi]
      exact rd_nat _ j hj
    omega
  refine ⟨ro, ?_⟩
  unfold netFlowOk
  rw [ro, decide_eq_true hl, Bool.true_and, Bool.true_and]
  refine (allTo_iff _ _).mpr fun i hi => ?_
  unfold hallOk keptAt
  simp only [Bool.and_eq_true, Bool.or_eq_true, decide_eq_true_eq]
  refine ⟨(allTo_iff _ _).mpr fun j hj => decide_eq_true (h.lo i j (by omega) (by omega)).2, ?_⟩
  by_cases c : i = 0
  · exact .inl c
  · by_cases d : f.length - 1 ≤ i
    · exact .inr (.inl d)
    · rw [hl] at d ⊢
      exact .inr (.inr (hc i (by omega) (by omega)))
theorem push_law {w f : List (List Int)} {way : List Int} (h : pushOk w f way = true) : rowsOk f = true ∧ rowsOk (pushFF w f way).1 = true ∧ netOk w = true ∧ netFlowOk w (pushFF w f way).1 = true ∧ valAt (ent (pushFF w f way).1) w.length 0 = valAt (ent f) w.length 0 + pushM w f way ∧ 0 < pushM w f way ∧ pushM w f way ≤ 100 ∧ pushFF w f way = ((pushFF w f way).1, pushM w f way, true) := by
  obtain ⟨hk, hf, h3, p, g5, g6⟩ := pushOk_props h
  obtain ⟨h1, sq, bd⟩ := netOk_rows hk
  obtain ⟨hl, fl, cons⟩ := netFlowOk_fl hf
  have e : pushFF w f way = (pushTo (pushM w f way) (hallsOf way) f (way.length - 1), pushM w f way, true) := by unfold pushFF; rw [h]; rfl
  have mm : pushM w f way = leastRoom (roomN w f) (hallsOf way) 100 ((hallsOf way).length - 1) := by unfold pushM; rw [g5]
  obtain ⟨m1, m2⟩ := leastRoom_le (roomN w f) (hallsOf way) 100 ((hallsOf way).length - 1)
  have mp := leastRoom_pos (roomN w f) (hallsOf way) 100 (by omega) ((hallsOf way).length - 1) (fun j hj => p.room j (by omega))
  rw [← mm] at m1 m2 mp
  obtain ⟨k1, k2, _⟩ := push_ok fl mp p.lt p.nd (fun j hj => m2 j (by omega)) (way.length - 1) (by omega)
  have kc : Cons w.length (pushTo (pushM w f way) (hallsOf way) f (way.length - 1)) := fun a ha ha2 => by
    have hlast := p.last
    rw [g5] at hlast
    rw [k2 a (by omega), p.first, hlast, if_neg (by omega), if_neg (by omega), cons a ha ha2]; rfl
  obtain ⟨r1, r2⟩ := fl_ok hk k1 kc
  obtain ⟨r3, _⟩ := fl_ok hk fl cons
  rw [e]
  refine ⟨r3, r1, hk, r2, ?_, mp, m1, rfl⟩
  have hlast := p.last
  rw [g5] at hlast
  show valAt (ent (pushTo (pushM w f way) (hallsOf way) f (way.length - 1))) w.length 0 = _
  rw [k2 0 (by omega), p.first, hlast, if_pos rfl, if_neg (by omega)]; omega
theorem flow_le_most {w f : List (List Int)} (hk : netOk w = true) (hf : netFlowOk w f = true) : valAt (ent f) w.length 0 ≤ valAt (ent (mostF w w.length)) w.length 0 := by
  obtain ⟨h1, sq, bd⟩ := netOk_rows hk
  obtain ⟨hl, fl, cons⟩ := netFlowOk_fl hf
  obtain ⟨mfl, mcons, nw⟩ := mostF_ok h1.1 bd
  obtain ⟨rk, cm, full⟩ := cameF_ok (roomN w (mostF w w.length)) w.length (by omega)
  have z0 : sideB w 0 = true := decide_eq_true (by rw [show ((0 : Nat) : Int) = 0 from rfl, cm.zero]; omega)
  have zl : sideB w (w.length - 1) = false := by
    rcases netWay_ok (roomN w (mostF w w.length)) w.length (by omega) with ⟨_, h3⟩ | ⟨h3, _⟩
    · exact decide_eq_false (by omega)
    · exact absurd nw (way_ne h3)
  rw [flow_eq_cut h1.1 z0 zl mcons mfl.lo (fun a b ha hb hA hB => ?_)]
  · exact flow_le_cut h1.1 z0 zl cons fl.lo
  · have hA2 : 0 ≤ rd (cameF (roomN w (mostF w w.length)) w.length) (a : Int) := of_decide_eq_true hA
    by_cases c : 0 < roomN w (mostF w w.length) a b
    · have := full a ha hA2 (by simp) b hb c
      exact absurd this (of_decide_eq_false hB)
    · unfold roomN at c; omega

theorem flows_rest (l : List Int) (hl : bytesOk l) : Ev (fun k => laws_FnFlows.j4 k l) true := by
  obtain ⟨n, w, f, way, e1, hn, hw, fl, fr, hwy⟩ := spec_DrawPushWay_ev l hl
  have hwg : ∀ r ∈ w, r.length ≤ 1048576 := fun r hr => by have := (hw.row r hr).1; omega
  have hfg : ∀ r ∈ f, r.length ≤ 1048576 := fun r hr => by rw [fr r hr]; omega
  have wl := hw.len
  have hI := impl_PushWay_ev w f way (by omega) hwg (by omega) hfg (by omega)
  have hS := spec_PushWay_ev w f way (by omega) hwg (by omega) hfg (by omega)
  have nI := impl_NextWay_ev w f (by omega) hwg (by omega) hfg
  have nS := spec_NextWay_ev w f (by omega) hwg (by omega) hfg
  have hrows : (pushFF w f way).1.length ≤ 1048576 ∧ ∀ r ∈ (pushFF w f way).1, r.length ≤ 1048576 := by
    by_cases c : pushOk w f way = true
    · obtain ⟨_, r1, hk, r2, _⟩ := push_law c
      obtain ⟨g1, g2, _⟩ := netFlowOk_fl r2
      have := fl_rows g2
      exact ⟨by omega, fun r hr => by rw [this r hr]; omega⟩
    · unfold pushFF
      rw [if_neg c]
      exact ⟨by simp, fun r hr => by cases hr⟩
  have hnext : (nextFF w f).1.length ≤ 1048576 := by
    unfold nextFF
    split
    · rename_i c
      obtain ⟨g1, _, _⟩ := netOk_rows c.1
      rw [List.length_map]
      by_cases e0 : netWay (roomN w f) w.length = []
      · rw [e0]; simp
      · obtain ⟨_, _, g3⟩ := netWay_props _ w.length g1.1 e0
        omega
    · simp
  refine Ev.succ ?_
  simp only [laws_FnFlows.j4]
  refine Ev.bind e1 (Ev.bind hI (Ev.bind hS (Ev.bind nI (Ev.bind nS (Ev.neg (by simp) (Ev.pos rfl (Ev.bind (laws_sameRows_ev _ hrows.1 hrows.2) (Ev.pos rfl (Ev.neg (by simp) (Ev.neg (by simp) (Ev.bind (laws_same_ev _ (Nat.le_trans hnext (by decide))) (Ev.succ ?_))))))))))))
  simp only [laws_FnFlows.j5, Bool.not_true, Bool.false_eq_true, if_false]
  by_cases c : pushOk w f way = true
  · obtain ⟨r0, r1, hk, r2, r3, r4, r5, r6⟩ := push_law c
    have hf : netFlowOk w f = true := (pushOk_props c).2.1
    obtain ⟨g1, g2, _⟩ := netFlowOk_fl hf
    obtain ⟨h1, sq, bd⟩ := netOk_rows hk
    have gl := (netFlowOk_fl r2).1
    have v1 := impl_FlowValue_ev f (by omega) hfg
    have v2 := impl_FlowValue_ev (pushFF w f way).1 hrows.1 hrows.2
    unfold flowVF at v1 v2
    rw [if_pos r0, g1] at v1
    rw [if_pos r1, gl] at v2
    have isf := impl_IsFlow_ev w (pushFF w f way).1 (by omega) hwg hrows.1 hrows.2
    unfold isFF at isf
    rw [if_pos hk, r2] at isf
    have vl := val_le (fun a b ha hb => (bd a b ha hb).2) g2 (by omega)
    have vg := sumN_bound (fun k => ent f 0 k - ent f k 0) 100 w.length (fun k hk2 => by
      have a1 := g2.lo 0 k (by omega) hk2
      have a2 := g2.lo k 0 hk2 (by omega)
      have a3 := bd 0 k (by omega) hk2
      have a4 := bd k 0 hk2 (by omega)
      omega) w.length (Nat.le_refl _)
    have vd : valAt (ent f) w.length 0 = sumN (fun k => ent f 0 k - ent f k 0) w.length := rfl
    rw [r6]
    refine Ev.pos rfl (Ev.bind isf (Ev.bind v1 (Ev.bind v2 (Ev.pos rfl (Ev.pos rfl (Ev.pos rfl (Ev.pos rfl (Ev.pos ?_ (Ev.to (Ev.now _) ?_)))))))))
    · dsimp only
      rw [w64 (by omega) (by omega)]; exact r3
    · rw [decide_eq_true (show pushM w f way > 0 from r4)]
  · have e : pushFF w f way = ([], 0, false) := by unfold pushFF; rw [if_neg c]
    rw [e]
    exact Ev.neg (by simp) (Ev.now _)
theorem FnFlows : laws_FnFlows.Pure := by
  intro l0 l1 _ hl0 hw0 _ hl1 hw1
  have b0 := bytesOk_of l0 hw0
  have b1 := bytesOk_of l1 hw1
  refine Ev.rounds (g := fun k => laws_FnFlows.f k l0 l1) ?_
  unfold laws_FnFlows.f
  refine Ev.ite (fun _ => Ev.now _) fun hs => ?_
  obtain ⟨n, w, f, e1, hn, hw, fl, fr⟩ := spec_DrawIsFlow_ev l0 b0
  have hwg : ∀ r ∈ w, r.length ≤ 1048576 := fun r hr => by have := (hw.row r hr).1; omega
  have hfg : ∀ r ∈ f, r.length ≤ 1048576 := fun r hr => by rw [fr r hr]; omega
  have wl := hw.len
  have iI := impl_IsFlow_ev w f (by omega) hwg (by omega) hfg
  have iS := spec_IsFlow_ev w f (by omega) hwg (by omega) hfg
  have ok2 : (isFF w f).2 = netOk w := by
    unfold isFF
    cases c : netOk w <;> simp
  refine Ev.bind e1 (Ev.bind iI (Ev.bind iS (Ev.neg (by simp) (Ev.neg (by simp) (Ev.bind (impl_GoodNet_ev w (by omega) hwg) (Ev.succ ?_))))))
  rw [ok2]
  simp only [laws_FnFlows.j0, bne_self_eq_false, Bool.false_eq_true, if_false]
  have mI := impl_MostFlow_ev w (by omega) hwg
  have mS := spec_MostFlow_ev w (by omega) hwg
  by_cases hk : netOk w = true
  · obtain ⟨h1, sq, bd⟩ := netOk_rows hk
    obtain ⟨mfl, mcons, nw⟩ := mostF_ok h1.1 bd
    obtain ⟨r1, r2⟩ := fl_ok hk mfl mcons
    have em : mostFF w = (mostF w w.length, valAt (ent (mostF w w.length)) w.length 0, true) := by unfold mostFF; rw [if_pos hk]
    have mrows := fl_rows mfl
    have mlen := mfl.len
    rw [em] at mI mS
    have hmg : ∀ r ∈ mostF w w.length, r.length ≤ 1048576 := fun r hr => by rw [mrows r hr]; omega
    refine Ev.bind mI (Ev.bind mS (Ev.neg (by simp) (Ev.bind (laws_sameRows_ev _ (by dsimp only; omega) hmg) (Ev.pos rfl (Ev.succ ?_)))))
    simp only [laws_FnFlows.j1, bne_self_eq_false, Bool.false_eq_true, if_false]
    have isf := impl_IsFlow_ev w (mostF w w.length) (by omega) hwg (by omega) hmg
    unfold isFF at isf
    rw [if_pos hk, r2] at isf
    have v1 := impl_FlowValue_ev (mostF w w.length) (by omega) hmg
    unfold flowVF at v1
    rw [if_pos r1, mlen] at v1
    have nx := impl_NextWay_ev w (mostF w w.length) (by omega) hwg (by omega) hmg
    unfold nextFF at nx
    rw [if_pos ⟨hk, r2⟩, nw] at nx
    refine Ev.pos (by first | rfl | trivial) (Ev.bind isf (Ev.bind v1 (Ev.bind nx (Ev.pos rfl (Ev.pos rfl (Ev.pos rfl (Ev.pos rfl (Ev.pos rfl (Ev.succ ?_)))))))))
    simp only [laws_FnFlows.j2]
    refine Ev.neg (by simp) (Ev.pos hk (Ev.succ ?_))
    simp only [laws_FnFlows.j3]
    have e1f : (isFF w f).1 = netFlowOk w f := by unfold isFF; rw [if_pos hk]
    rw [e1f]
    refine Ev.ite (fun hf => ?_) (fun _ => flows_rest l1 b1)
    have ro : rowsOk f = true := by
      unfold netFlowOk at hf
      simp only [Bool.and_eq_true] at hf
      exact hf.1
    have hle := flow_le_most hk hf
    have v2 := impl_FlowValue_ev f (by omega) hfg
    unfold flowVF at v2
    rw [if_pos ro, (netFlowOk_fl hf).1] at v2
    exact Ev.bind v2 (Ev.pos rfl (Ev.neg (by dsimp only; omega) (flows_rest l1 b1)))
  · have em : mostFF w = ([], 0, false) := by unfold mostFF; rw [if_neg hk]
    rw [em] at mI mS
    refine Ev.bind mI (Ev.bind mS (Ev.neg (by simp) (Ev.bind (laws_sameRows_ev _ (by simp) (fun r hr => by cases hr)) (Ev.pos rfl (Ev.succ ?_)))))
    simp only [laws_FnFlows.j1, bne_self_eq_false, Bool.false_eq_true, if_false]
    exact flows_rest l1 b1
end Go.Proofs.Ytneojimdhnhkeaa.Pure
