/- As many loads have no bin as some loads are more than the bins that they fit (Hall), and no matching is greater, for drawn fits: no condition but the statement's own. -/
import Derived.Test.YtpagpbamdpllnaaCFnMatch1
import Derived.Test.YtpagpbamdpllnaaCFnMatch2
import Derived.Test.YtpagpbamdpllnaaCFnMatch0
set_option linter.unusedVariables false
set_option linter.unusedSimpArgs false
namespace Go.Proofs.Ytpagpbamdpllnaa.Pure
open Go.RowKit Go.Proofs.Ytpagpbamdpllnaa.Print Go.Proofs.YtpagpbamdpllnaaW.PrintWords Go.Proofs.YtpagpbamdpllnaaW.PrintLast Go.Proofs.YtpagpbamdpllnaaW.PrintMore

def bytesOk (l : List Int) : Prop := ∀ x ∈ l, 0 ≤ x ∧ x ≤ 255
theorem wf_u8 {x : Int} (h : (Lit.int .u8 x).wf = true) : 0 ≤ x ∧ x ≤ 255 := by
  have h' : decide (IntKind.u8.min ≤ x) && decide (x ≤ IntKind.u8.max) := h
  simp only [Bool.and_eq_true, decide_eq_true_eq] at h'
  have e1 : IntKind.u8.min = 0 := by decide
  have e2 : IntKind.u8.max = 255 := by decide
  omega
theorem bytesOk_of (l : List Int) (h : ∀ x ∈ l, (Lit.int .u8 x).wf = true) : bytesOk l := fun x hx => wf_u8 (h x hx)
theorem u64_range (x : Int) : 0 ≤ IntKind.u64.wrap x ∧ IntKind.u64.wrap x < 18446744073709551616 := by
  have e : IntKind.u64.wrap x = x % 18446744073709551616 := by simp [IntKind.wrap, IntKind.bits, IntKind.signed]
  rw [e]; omega
theorem and_255 (x : Int) (h0 : 0 ≤ x) (h1 : x < 18446744073709551616) : 0 ≤ Go.bits .and .u64 x 255 ∧ Go.bits .and .u64 x 255 ≤ 255 := by
  obtain ⟨n, rfl⟩ := exists_nat_of_nonneg h0
  have e : Go.bits .and .u64 (n : Int) ((255 : Nat) : Int) = ((n &&& 255 : Nat) : Int) := u64_and_nat n 255 (by omega) (by omega)
  have h2 : n &&& 255 ≤ 255 := Nat.and_le_right
  have e' : Go.bits .and .u64 (n : Int) 255 = ((n &&& 255 : Nat) : Int) := e
  rw [e']; omega
theorem rd_mem_or (l : List Int) (i : Int) (h0 : 0 ≤ i) (h : i < l.length) : rd l i ∈ l := by
  obtain ⟨n, rfl⟩ := exists_nat_of_nonneg h0
  rw [rd_nat l n (by omega)]; exact List.getElem_mem _

theorem cur_next (l : List Int) (a s : Int) (hl : bytesOk l) (ha : 0 ≤ a ∧ a ≤ 4611686018427387904) :
    ∃ b s', spec_l1Cur_next.f l a s = some (b, a + 1, s') ∧ 0 ≤ b ∧ b ≤ 255 := by
  have hmask : ∀ y : Int, 0 ≤ wrap64 (Go.bits .and .u64 ((IntKind.u64.wrap y) / 1099511627776) 255) ∧ wrap64 (Go.bits .and .u64 ((IntKind.u64.wrap y) / 1099511627776) 255) ≤ 255 := fun y => by
    have h1 := u64_range y
    have h2 := and_255 ((IntKind.u64.wrap y) / 1099511627776) (by omega) (by omega)
    rw [w64 (by omega) (by omega)]; exact h2
  unfold spec_l1Cur_next.f
  rw [w64 (x := a + 1) (by omega) (by omega)]
  by_cases h1 : a < (l.length : Int)
  · have hb := hl _ (rd_mem_or l a ha.1 h1)
    rw [if_pos h1, if_pos ha.1]
    by_cases h2 : a + 1 ≤ (l.length : Int)
    · rw [if_pos h2]; exact ⟨_, _, rfl, by rw [w64 (by omega) (by omega)]; exact hb⟩
    · rw [if_neg h2]; exact ⟨_, _, rfl, hmask _⟩
  · rw [if_neg h1]
    by_cases h2 : a + 1 ≤ (l.length : Int)
    · rw [if_pos h2]; exact ⟨_, _, rfl, by omega⟩
    · rw [if_neg h2]; exact ⟨_, _, rfl, hmask _⟩

theorem cur_pick (l : List Int) (a s n : Int) (hl : bytesOk l) (ha : 0 ≤ a ∧ a ≤ 4611686018427387900) :
    ∃ r a' s', spec_l1Cur_pick.f l a s n = some (r, a', s') ∧ 0 ≤ r ∧ (r < n ∨ n ≤ 1 ∧ r = 0) ∧ a ≤ a' ∧ a' ≤ a + 2 := by
  unfold spec_l1Cur_pick.f
  by_cases h : n ≤ 1
  · rw [if_pos h]; exact ⟨0, a, s, rfl, by omega, .inr ⟨h, rfl⟩, by omega, by omega⟩
  · rw [if_neg h]
    obtain ⟨b, s1, e1, hb⟩ := cur_next l a s hl (by omega)
    rw [e1]; simp only [Option.bind_some]
    by_cases h2 : n > 200
    · rw [if_pos h2]
      obtain ⟨c, s2, e2, hc⟩ := cur_next l (a + 1) s1 hl (by omega)
      rw [e2]; simp only [Option.bind_some]; rw [if_neg (by omega), w64 (x := b * 256) (by omega) (by omega), w64 (by omega) (by omega)]
      exact ⟨_, _, _, rfl, Int.tmod_nonneg _ (by omega), .inl (Int.tmod_lt_of_pos _ (by omega)), by omega, by omega⟩
    · rw [if_neg h2, if_neg (by omega)]
      exact ⟨_, _, _, rfl, Int.tmod_nonneg _ (by omega), .inl (Int.tmod_lt_of_pos _ (by omega)), by omega, by omega⟩

theorem cur_one (l : List Int) (a s n : Int) (hl : bytesOk l) (ha : 0 ≤ a ∧ a ≤ 4611686018427387900) :
    ∃ r a' s', spec_l1Cur_one.f l a s n = some (r, a', s') ∧ a ≤ a' ∧ a' ≤ a + 2 := by
  unfold spec_l1Cur_one.f
  obtain ⟨r, a', s', e, h0, h1, h2, h3⟩ := cur_pick l a s n hl ha
  rw [e]; exact ⟨_, _, _, rfl, h2, h3⟩

theorem spec_l1In_eq (n lo hi : Int) : spec_l1In.f n lo hi = some (decide (lo ≤ n) && decide (n ≤ hi)) := by
  unfold spec_l1In.f
  by_cases h : n ≥ lo
  · rw [if_pos h, decide_eq_true (show lo ≤ n from h)]; simp
  · rw [if_neg h, decide_eq_false (show ¬ lo ≤ n from h)]; simp

theorem impl_within_eq (n lo hi : Int) : impl_within.f n lo hi = some (decide (lo ≤ n) && decide (n ≤ hi)) := by
  unfold impl_within.f
  by_cases h : n ≥ lo
  · rw [if_pos h, decide_eq_true (show lo ≤ n from h)]; simp
  · rw [if_neg h, decide_eq_false (show ¬ lo ≤ n from h)]; simp

theorem spec_l1All_ev (l : List Int) (lo hi : Int) (hl : l.length < 4611686018427387904) : Ev (fun k => spec_l1All.f k l lo hi) (allIn l lo hi) := by
  unfold spec_l1All.f
  refine ev_up l.length (fun k i => spec_l1All.l0 k lo hi l (l.length : Int) (i : Int)) _ (fun i => allIn (l.take i) lo hi = true) (by simp [allIn]) ?_ ?_
  · intro hI
    refine Ev.step0 (Ev.of_eq fun _ => rfl) fun k => ?_
    simp only [spec_l1All.l0]; rw [if_neg (by omega)]
    rw [List.take_length] at hI; rw [hI]
  · intro i hi' hI hn
    cases hb : (decide (lo ≤ l[i]) && decide (l[i] ≤ hi)) with
    | true =>
      refine Ev.step0 (hn (all_take_succ l _ i hi' hI hb)) fun k => ?_
      simp only [spec_l1All.l0]; rw [if_pos (lt_len hi'), if_pos (by omega), if_pos (lt_len hi'), rd_nat l i hi', spec_l1In_eq, hb]
      simp only [Option.bind_some, if_true]; rw [w64 (by omega) (by omega)]; rfl
    | false =>
      refine Ev.step0 (Ev.of_eq fun _ => rfl) fun k => ?_
      simp only [spec_l1All.l0]; rw [if_pos (lt_len hi'), if_pos (by omega), if_pos (lt_len hi'), rd_nat l i hi', spec_l1In_eq, hb]
      simp only [Option.bind_some]; rw [if_neg (by decide)]
      rw [show allIn l lo hi = false from all_take_false l _ i hi' hb]

theorem impl_allWithin_ev (l : List Int) (lo hi : Int) (hl : l.length < 4611686018427387904) : Ev (fun k => impl_allWithin.f k l lo hi) (allIn l lo hi) := by
  unfold impl_allWithin.f sl1_ContainsFunc.f sl3_IndexFunc.f
  have key : ∃ j : Int, decide (j ≥ 0) = !(allIn l lo hi) ∧ Ev (fun k => sl3_IndexFunc.l0 k l (l.length : Int) 0 lo hi) j := by
    have hc : ∀ x : Int, impl_allWithin_1.f x lo hi = some (!(decide (lo ≤ x) && decide (x ≤ hi))) := fun x => by
      unfold impl_allWithin_1.f; rw [impl_within_eq]; rfl
    cases ha : allIn l lo hi with
    | true =>
      refine ⟨-1, by decide, ?_⟩
      refine ev_up l.length (fun k i => sl3_IndexFunc.l0 k l (l.length : Int) (i : Int) lo hi) _ (fun _ => True) trivial ?_ ?_
      · intro _
        refine Ev.step0 (Ev.of_eq fun _ => rfl) fun k => ?_
        simp only [sl3_IndexFunc.l0]; rw [if_neg (by omega)]
      · intro i hi' _ hn
        have hb := (allIn_iff l lo hi).mp ha l[i] (List.getElem_mem hi')
        refine Ev.step0 (hn trivial) fun k => ?_
        simp only [sl3_IndexFunc.l0]; rw [if_pos (lt_len hi'), if_pos (by omega), if_pos (lt_len hi'), rd_nat l i hi', hc, decide_eq_true hb.1, decide_eq_true hb.2]
        simp only [Option.bind_some]; rw [if_neg (by decide), w64 (by omega) (by omega)]; rfl
    | false =>
      have : ∃ i : Nat, i < l.length ∧ Ev (fun k => sl3_IndexFunc.l0 k l (l.length : Int) 0 lo hi) (i : Int) := by
        obtain ⟨i, hi', hp, hlt⟩ : ∃ i : Nat, ∃ h : i < l.length, (decide (lo ≤ l[i]) && decide (l[i] ≤ hi)) = false ∧ ∀ j, ∀ hj : j < i, (decide (lo ≤ l[j]) && decide (l[j] ≤ hi)) = true := by
          have h1 : ∃ i : Nat, ∃ h : i < l.length, (decide (lo ≤ l[i]) && decide (l[i] ≤ hi)) = false := by
            unfold allIn at ha
            rw [List.all_eq_false] at ha
            obtain ⟨x, hx, hp⟩ := ha
            obtain ⟨i, hi', rfl⟩ := List.getElem_of_mem hx
            exact ⟨i, hi', by simpa using hp⟩
          obtain ⟨m, hm, hmin⟩ := exists_least h1
          obtain ⟨hm1, hm2⟩ := hm
          refine ⟨m, hm1, hm2, fun j hj => ?_⟩
          cases hq : (decide (lo ≤ l[j]) && decide (l[j] ≤ hi)) with
          | true => rfl
          | false => have := hmin j ⟨by omega, hq⟩; omega
        refine ⟨i, hi', ?_⟩
        refine ev_up i (fun k i => sl3_IndexFunc.l0 k l (l.length : Int) (i : Int) lo hi) _ (fun _ => True) trivial ?_ ?_
        · intro _
          refine Ev.step0 (Ev.of_eq fun _ => rfl) fun k => ?_
          simp only [sl3_IndexFunc.l0]; rw [if_pos (lt_len hi'), if_pos (by omega), if_pos (lt_len hi'), rd_nat l i hi', hc, hp]
          simp
        · intro j hj _ hn
          have hj' : j < l.length := by omega
          refine Ev.step0 (hn trivial) fun k => ?_
          simp only [sl3_IndexFunc.l0]; rw [if_pos (lt_len hj'), if_pos (by omega), if_pos (lt_len hj'), rd_nat l j hj', hc, hlt j hj]
          simp only [Option.bind_some]; rw [if_neg (by decide), w64 (by omega) (by omega)]; rfl
      obtain ⟨i, _, hi2⟩ := this
      exact ⟨i, by simp, hi2⟩
  obtain ⟨j, hj, hev⟩ := key
  refine Ev.to (Ev.bind (Ev.bind hev (Ev.now _)) (Ev.now _)) ?_
  rw [hj]; simp

def lowNum (a b : Int) : Int := if b < 0 then Int.tdiv (-a) (Int.gcd a b) else Int.tdiv a (Int.gcd a b)
def lowDen (a b : Int) : Int := if b < 0 then Int.tdiv (-b) (Int.gcd a b) else Int.tdiv b (Int.gcd a b)
def goodFrac (a b : Int) : Bool := decide (-1000000000 ≤ a) && decide (a ≤ 1000000000) && (decide (1 ≤ b) && decide (b ≤ 1000000000)) && decide (Int.gcd a b = 1)

theorem rdOf_nat {α : Type} (d : α) (l : List α) (i : Nat) (h : i < l.length) : rdOf d l (i : Int) = l[i] := by simp [rdOf, h]
theorem w64n {i n : Nat} (h : i < n) (hn : n ≤ 4611686018427387904) : wrap64 ((i : Int) + 1) = ((i + 1 : Nat) : Int) := by rw [w64 (by omega) (by omega)]; rfl
theorem ev_indexFunc {α : Type} (l : List α) (rdx : Int → α) (hr : ∀ (i : Nat) (h : i < l.length), rdx (i : Int) = l[i]) (c : Nat → α → Option Bool) (p : α → Bool)
    (hc : ∀ x ∈ l, Ev (fun k => c k x) (p x)) (g : Nat → Int → Option Int)
    (hg : ∀ k i, g (k + 1) i = if i < (l.length : Int) then (if 0 ≤ i then (if i < (l.length : Int) then ((c k (rdx i)).bind fun t => if t = true then some i else g k (wrap64 (i + 1))) else none) else none) else some (-1))
    (hl : l.length ≤ 4611686018427387904) : ∃ j : Int, decide (j ≥ 0) = l.any p ∧ Ev (fun k => g k 0) j := by
  have gen : ∀ (d i : Nat), i + d = l.length → ∃ j : Int, decide (j ≥ 0) = (l.drop i).any p ∧ Ev (fun k => g k (i : Int)) j := by
    intro d
    induction d with
    | zero =>
      intro i hi
      refine ⟨-1, by rw [List.drop_of_length_le (by omega)]; rfl, Ev.step0 (Ev.of_eq fun _ => rfl) fun k => ?_⟩
      rw [hg, if_neg (by omega)]
    | succ d ih =>
      intro i hi
      have hi' : i < l.length := by omega
      have hd : (l.drop i).any p = (p l[i] || (l.drop (i + 1)).any p) := by rw [List.drop_eq_getElem_cons hi', List.any_cons]
      have hcx := hc l[i] (List.getElem_mem hi')
      cases hp : p l[i] with
      | true =>
        refine ⟨i, by rw [hd, hp]; simp, Ev.step (fun k => hg k _) (Ev.pos (by omega) (Ev.pos (by omega) (Ev.pos (by omega) ?_)))⟩
        rw [hr i hi']
        exact Ev.bind hcx (Ev.pos hp (Ev.now _))
      | false =>
        obtain ⟨j, hj, hev⟩ := ih (i + 1) (by omega)
        refine ⟨j, by rw [hd, hp, hj]; rfl, Ev.step (fun k => hg k _) (Ev.pos (by omega) (Ev.pos (by omega) (Ev.pos (by omega) ?_)))⟩
        rw [hr i hi', w64 (by omega) (by omega)]
        exact Ev.bind hcx (Ev.neg (by rw [hp]; simp) hev)
  have := gen l.length 0 (by omega)
  simpa using this
theorem any_not_all {α : Type} (l : List α) (p : α → Bool) : l.any (fun x => !p x) = !(l.all p) := by
  induction l with
  | nil => rfl
  | cons a l ih => simp [ih]
theorem spec_l1Has_ev (l : List Int) (a : Int) (hl : l.length ≤ 4611686018427387904) : Ev (fun k => spec_l1Has.f k l a) (decide (a ∈ l)) := by
  unfold spec_l1Has.f
  have gen : ∀ (d i : Nat), i + d = l.length → Ev (fun k => spec_l1Has.l0 k a l (l.length : Int) (i : Int)) (decide (a ∈ l.drop i)) := by
    intro d
    induction d with
    | zero =>
      intro i hi
      rw [List.drop_of_length_le (by omega)]
      refine Ev.succ ?_
      simp only [spec_l1Has.l0]; exact Ev.neg (by omega) (Ev.now _)
    | succ d ih =>
      intro i hi
      have hi' : i < l.length := by omega
      rw [List.drop_eq_getElem_cons hi']
      refine Ev.succ ?_
      simp only [spec_l1Has.l0]
      refine Ev.pos (by omega) (Ev.pos (by omega) (Ev.pos (by omega) ?_))
      rw [rd_nat l i hi', w64 (by omega) (by omega)]
      refine Ev.ite (fun h => ?_) (fun h => ?_)
      · rw [h]; simpa using Ev.now true
      · have := ih (i + 1) (by omega)
        have e : decide (a ∈ l[i] :: l.drop (i + 1)) = decide (a ∈ l.drop (i + 1)) := by
          rw [decide_eq_decide, List.mem_cons]; constructor
          · rintro (h2 | h2)
            · exact absurd h2.symm h
            · exact h2
          · exact .inr
        rw [e]; exact this
  simpa using gen l.length 0 (by omega)

def wayOf (a b c d : Int) : Int := if a = c then ((b - d).natAbs : Int) else 3 * ((a - c).natAbs : Int) + (if 40 - (b + d) < b + d then 40 - (b + d) else b + d)
def spotOk (a b : Int) : Bool := (decide (0 ≤ a) && decide (a ≤ 9)) && (decide (0 ≤ b) && decide (b ≤ 20))

theorem laws_sameInts_ev (a b : List Int) (hl : a.length ≤ 4611686018427387904) : Ev (fun k => laws_sameInts.f k a b) (decide (a = b)) := by
  unfold laws_sameInts.f
  refine Ev.ite (fun h => ?_) (fun h => ?_)
  · have hlen : a.length = b.length := by omega
    have gen : ∀ (d i : Nat), i + d = a.length → Ev (fun k => laws_sameInts.l0 k a b (a.length : Int) (i : Int)) (decide (a.drop i = b.drop i)) := by
      intro d
      induction d with
      | zero =>
        intro i hi
        rw [List.drop_of_length_le (by omega), List.drop_of_length_le (by omega)]
        refine Ev.succ ?_
        simp only [laws_sameInts.l0]; exact Ev.neg (by omega) (by simpa using Ev.now true)
      | succ d ih =>
        intro i hi
        have hi' : i < a.length := by omega
        have hi2 : i < b.length := by omega
        rw [List.drop_eq_getElem_cons hi', List.drop_eq_getElem_cons hi2]
        refine Ev.succ ?_
        simp only [laws_sameInts.l0]
        refine Ev.pos (by omega) (Ev.pos (by omega) (Ev.pos (by omega) (Ev.pos (by omega) ?_)))
        rw [rd_nat a i hi', rd_nat b i hi2, w64n hi' (by omega)]
        refine Ev.ite (fun h => ?_) (fun h => ?_)
        · have e : decide (a[i] :: a.drop (i + 1) = b[i] :: b.drop (i + 1)) = decide (a.drop (i + 1) = b.drop (i + 1)) := by
            rw [decide_eq_decide, h]; exact ⟨fun h => (List.cons.inj h).2, fun h => by rw [h]⟩
          rw [e]; exact ih (i + 1) (by omega)
        · have e : decide (a[i] :: a.drop (i + 1) = b[i] :: b.drop (i + 1)) = false := by
            rw [decide_eq_false_iff_not]; intro h2; injection h2 with h3; exact h h3
          rw [e]; exact Ev.now _
    simpa using gen a.length 0 (by omega)
  · have e : decide (a = b) = false := by rw [decide_eq_false_iff_not]; rintro rfl; exact h rfl
    rw [e]; exact Ev.now _
theorem laws_same_ev (a : List Int) (hl : a.length ≤ 4611686018427387904) : Ev (fun k => laws_sameInts.f k a a) true := Ev.to (laws_sameInts_ev a a hl) (by simp)

inductive Tk (F : Nat → Nat → Bool) (nb : Nat) : Nat → Nat → List Int → List Bool → Bool → List Int → List Bool → Prop where
  | done {l b : Nat} {o : List Int} {t : List Bool} : nb ≤ b → Tk F nb l b o t false o t
  | skip {l b : Nat} {o o' : List Int} {t t' : List Bool} {r : Bool} : b < nb → (F l b = false ∨ rdOf false t (b : Int) = true) → Tk F nb l (b + 1) o t r o' t' → Tk F nb l b o t r o' t'
  | free {l b : Nat} {o : List Int} {t : List Bool} : b < nb → F l b = true → rdOf false t (b : Int) = false → rd o (b : Int) < 0 → Tk F nb l b o t true (o.set b (l : Int)) (t.set b true)
  | push {l b m : Nat} {o o' : List Int} {t t' : List Bool} : b < nb → F l b = true → rdOf false t (b : Int) = false → rd o (b : Int) = (m : Int) → Tk F nb m 0 o (t.set b true) true o' t' → Tk F nb l b o t true (o'.set b (l : Int)) t'
  | fail {l b m : Nat} {o o' o'' : List Int} {t t' t'' : List Bool} {r : Bool} : b < nb → F l b = true → rdOf false t (b : Int) = false → rd o (b : Int) = (m : Int) → Tk F nb m 0 o (t.set b true) false o' t' → Tk F nb l (b + 1) o' t' r o'' t'' → Tk F nb l b o t r o'' t''
theorem rd_setn (o : List Int) (b x : Nat) (v : Int) (h : b < o.length) : rd (o.set b v) (x : Int) = if x = b then v else rd o (x : Int) := by
  simp only [rd, Int.toNat_natCast, List.getD_eq_getElem?_getD, List.getElem?_set]
  by_cases hx : b = x
  · subst hx; simp [h]
  · rw [if_neg hx, if_neg (fun e => hx e.symm)]
theorem rdOf_setn (t : List Bool) (b x : Nat) (v : Bool) (h : b < t.length) : rdOf false (t.set b v) (x : Int) = if x = b then v else rdOf false t (x : Int) := by
  simp only [rdOf, Int.toNat_natCast, List.getD_eq_getElem?_getD, List.getElem?_set]
  by_cases hx : b = x
  · subst hx; simp [h]
  · rw [if_neg hx, if_neg (fun e => hx e.symm)]
theorem Tk.len {F : Nat → Nat → Bool} {nb l b : Nat} {o o' : List Int} {t t' : List Bool} {r : Bool} (h : Tk F nb l b o t r o' t') : o'.length = o.length ∧ t'.length = t.length := by
  induction h with
  | done _ => exact ⟨rfl, rfl⟩
  | skip _ _ _ ih => exact ih
  | free _ _ _ _ => simp
  | push _ _ _ _ _ ih => simp at ih ⊢; exact ih
  | fail _ _ _ _ _ _ ih1 ih2 => simp at ih1; exact ⟨by omega, by omega⟩
theorem Tk.rng {F : Nat → Nat → Bool} {nb n l b : Nat} {o o' : List Int} {t t' : List Bool} {r : Bool} (h : Tk F nb l b o t r o' t') :
    o.length = nb → l < n → (∀ x : Nat, x < nb → -1 ≤ rd o (x : Int) ∧ rd o (x : Int) < n) → ∀ x : Nat, x < nb → -1 ≤ rd o' (x : Int) ∧ rd o' (x : Int) < n := by
  induction h with
  | done _ => intro _ _ h; exact h
  | skip _ _ _ ih => exact ih
  | free hb _ _ _ => intro ho hl h x hx; rw [rd_setn _ _ _ _ (by omega)]; split
                     · omega
                     · exact h x hx
  | push hb _ _ hm ht ih =>
    intro ho hl h x hx
    have h1 := h _ hb
    rw [rd_setn _ _ _ _ (by have := ht.len; omega)]; split
    · omega
    · exact ih ho (by omega) h x hx
  | fail hb _ _ hm ht _ ih1 ih2 =>
    intro ho hl h
    have h1 := h _ hb
    exact ih2 (by have := ht.len; omega) hl (ih1 ho (by omega) h)
theorem Tk.mono {F : Nat → Nat → Bool} {nb l b : Nat} {o o' : List Int} {t t' : List Bool} {r : Bool} (h : Tk F nb l b o t r o' t') :
    t.length = nb → ∀ x : Nat, rdOf false t (x : Int) = true → rdOf false t' (x : Int) = true := by
  induction h with
  | done _ => intro _ _ h; exact h
  | skip _ _ _ ih => exact ih
  | free hb _ _ _ => intro ht x hx; rw [rdOf_setn _ _ _ _ (by omega)]; split
                     · rfl
                     · exact hx
  | push hb _ _ _ _ ih => intro ht x hx; exact ih (by simpa using ht) x (by rw [rdOf_setn _ _ _ _ (by omega)]; split <;> simp_all)
  | fail hb _ _ _ hs _ ih1 ih2 => intro ht x hx; exact ih2 (by have := hs.len; simp at this; omega) x (ih1 (by simpa using ht) x (by rw [rdOf_setn _ _ _ _ (by omega)]; split <;> simp_all))
theorem Tk.kept {F : Nat → Nat → Bool} {nb l b : Nat} {o o' : List Int} {t t' : List Bool} {r : Bool} (h : Tk F nb l b o t r o' t') :
    o.length = nb → t.length = nb → ∀ x : Nat, rdOf false t (x : Int) = true → rd o' (x : Int) = rd o (x : Int) := by
  induction h with
  | done _ => intro _ _ _ _; rfl
  | skip _ _ _ ih => exact ih
  | free hb _ h0 _ =>
    intro ho ht x hx; rw [rd_setn _ _ _ _ (by omega)]; split
    · subst x; rw [h0] at hx; cases hx
    · rfl
  | push hb _ h0 _ hs ih =>
    intro ho ht x hx
    rw [rd_setn _ _ _ _ (by have := hs.len; omega)]; split
    · subst x; rw [h0] at hx; cases hx
    · exact ih ho (by simpa using ht) x (by rw [rdOf_setn _ _ _ _ (by omega)]; split <;> simp_all)
  | @fail l b m o o' o'' t t' t'' r hb _ h0 _ hs _ ih1 ih2 =>
    intro ho ht x hx
    have h1 : rdOf false (t.set b true) (x : Int) = true := by rw [rdOf_setn _ _ _ _ (by omega)]; split <;> simp_all
    have := hs.len; simp at this
    rw [ih2 (by omega) (by omega) x (hs.mono (by simpa using ht) x h1), ih1 ho (by simpa using ht) x h1]
theorem Tk.dead {F : Nat → Nat → Bool} {nb l b : Nat} {o o' : List Int} {t t' : List Bool} {r : Bool} (h : Tk F nb l b o t r o' t') (D : Nat → Prop) :
    o.length = nb → (∀ x, D x → x < nb ∧ ∃ m : Nat, rd o (x : Int) = (m : Int) ∧ ∀ y, y < nb → F m y = true → D y) →
    (∀ x, D x → rd o' (x : Int) = rd o (x : Int)) ∧ ((∀ x, b ≤ x → x < nb → F l x = true → D x) → r = false) := by
  induction h with
  | done _ => intro _ _; exact ⟨fun _ _ => rfl, fun _ => rfl⟩
  | skip hb hc hs ih => intro ho hD; exact ⟨(ih ho hD).1, fun hF => (ih ho hD).2 fun x h1 h2 h3 => hF x (by omega) h2 h3⟩
  | @free l b o t hb hf h0 hn =>
    intro ho hD
    have hno : ¬ D b := fun hd => by obtain ⟨_, m, hm, _⟩ := hD b hd; omega
    refine ⟨fun x hx => ?_, fun hF => absurd (hF b (Nat.le_refl _) hb hf) hno⟩
    rw [rd_setn _ _ _ _ (by omega), if_neg]
    intro e; subst e; exact hno hx
  | @push l b m o o' t t' hb hf h0 hm hs ih =>
    intro ho hD
    obtain ⟨i1, i2⟩ := ih ho hD
    have hno : ¬ D b := fun hd => by
      obtain ⟨_, m', hm', hy⟩ := hD b hd
      have e : m' = m := by omega
      subst e
      exact absurd (i2 fun x _ h2 h3 => hy x h2 h3) (by simp)
    refine ⟨fun x hx => ?_, fun hF => absurd (hF b (Nat.le_refl _) hb hf) hno⟩
    rw [rd_setn _ _ _ _ (by have := hs.len; omega), if_neg, i1 x hx]
    intro e; subst e; exact hno hx
  | @fail l b m o o' o'' t t' t'' r hb hf h0 hm hs hr ih1 ih2 =>
    intro ho hD
    obtain ⟨i1, _⟩ := ih1 ho hD
    obtain ⟨j1, j2⟩ := ih2 (by have := hs.len; omega) (fun x hx => by
      obtain ⟨h1, m', h2, h3⟩ := hD x hx
      exact ⟨h1, m', by rw [i1 x hx]; exact h2, h3⟩)
    exact ⟨fun x hx => by rw [j1 x hx, i1 x hx], fun hF => j2 fun x h1 h2 h3 => hF x (by omega) h2 h3⟩
theorem Tk.fails {F : Nat → Nat → Bool} {nb l b : Nat} {o o' : List Int} {t t' : List Bool} {r : Bool} (h : Tk F nb l b o t r o' t') :
    t.length = nb → r = false → o' = o ∧ (∀ x, b ≤ x → x < nb → F l x = true → rdOf false t' (x : Int) = true) ∧
      ∀ x : Nat, x < nb → rdOf false t' (x : Int) = true → rdOf false t (x : Int) = true ∨ ∃ m : Nat, rd o (x : Int) = (m : Int) ∧ ∀ y, y < nb → F m y = true → rdOf false t' (y : Int) = true := by
  induction h with
  | done hb => intro _ _; exact ⟨rfl, fun x h1 h2 _ => by omega, fun x _ h => .inl h⟩
  | @skip l b o o' t t' r hb hc hs ih =>
    intro ht hr
    obtain ⟨h1, h2, h3⟩ := ih ht hr
    refine ⟨h1, fun x a1 a2 a3 => ?_, h3⟩
    rcases Nat.lt_or_ge b x with h | h
    · exact h2 x h a2 a3
    · obtain rfl : x = b := by omega
      rcases hc with hc | hc
      · rw [hc] at a3; cases a3
      · exact hs.mono ht x hc
  | free _ _ _ _ => intro _ hr; cases hr
  | push _ _ _ _ _ _ => intro _ hr; cases hr
  | @fail l b m o o' o'' t t' t'' r hb hf h0 hm hs hq ih1 ih2 =>
    intro ht hr
    have hl := hs.len; simp at hl
    obtain ⟨e1, f1, g1⟩ := ih1 (by simpa using ht) rfl
    obtain ⟨e2, f2, g2⟩ := ih2 (by omega) hr
    have mo := hq.mono (by omega)
    have mb : rdOf false t' (b : Int) = true := hs.mono (by simpa using ht) b (by rw [rdOf_setn _ _ _ _ (by omega), if_pos rfl])
    subst e1
    refine ⟨e2, fun x a1 a2 a3 => ?_, fun x a1 a2 => ?_⟩
    · rcases Nat.lt_or_ge b x with h | h
      · exact f2 x h a2 a3
      · obtain rfl : x = b := by omega
        exact mo x mb
    · rcases g2 x a1 a2 with h | h
      · rcases g1 x a1 h with h' | ⟨m', h1, h2⟩
        · rw [rdOf_setn _ _ _ _ (by omega)] at h'
          split at h'
          · subst x; exact .inr ⟨m, hm, fun y hy hy2 => mo y (f1 y (Nat.zero_le _) hy hy2)⟩
          · exact .inl h'
        · exact .inr ⟨m', h1, fun y hy hy2 => mo y (h2 y hy hy2)⟩
      · exact .inr h
structure Owns (F : Nat → Nat → Bool) (U : Nat → Prop) (o : List Int) : Prop where
  inj : ∀ x y (m : Nat), U x → U y → rd o (x : Int) = (m : Int) → rd o (y : Int) = (m : Int) → x = y
  fit : ∀ x (m : Nat), U x → rd o (x : Int) = (m : Int) → F m x = true
theorem Tk.takes {F : Nat → Nat → Bool} {nb l b : Nat} {o o' : List Int} {t t' : List Bool} {r : Bool} (h : Tk F nb l b o t r o' t') :
    o.length = nb → t.length = nb → r = true → Owns F (fun x => x < nb ∧ rdOf false t (x : Int) = false) o → (∀ x : Nat, x < nb → rdOf false t (x : Int) = false → rd o (x : Int) ≠ (l : Int)) →
    Owns F (fun x => x < nb ∧ rdOf false t (x : Int) = false) o' ∧ ∀ m : Nat, (∃ x : Nat, (x < nb ∧ rdOf false t (x : Int) = false) ∧ rd o' (x : Int) = (m : Int)) ↔ (m = l ∨ ∃ x : Nat, (x < nb ∧ rdOf false t (x : Int) = false) ∧ rd o (x : Int) = (m : Int)) := by
  induction h with
  | done _ => intro _ _ hr; cases hr
  | skip _ _ _ ih => exact ih
  | @free l b o t hb hf h0 hn =>
    intro ho ht _ hO hl
    have e : ∀ x : Nat, rd (o.set b (l : Int)) (x : Int) = if x = b then (l : Int) else rd o (x : Int) := fun x => rd_setn _ _ _ _ (by omega)
    refine ⟨⟨fun x y m hx hy h1 h2 => ?_, fun x m hx h1 => ?_⟩, fun m => ⟨?_, ?_⟩⟩
    · rw [e] at h1 h2
      split at h1 <;> split at h2
      · omega
      · have := hl y hy.1 hy.2; omega
      · have := hl x hx.1 hx.2; omega
      · exact hO.inj x y m hx hy h1 h2
    · rw [e] at h1
      split at h1
      · obtain rfl : l = m := by omega
        subst x; exact hf
      · exact hO.fit x m hx h1
    · rintro ⟨x, hx, h1⟩
      rw [e] at h1
      split at h1
      · exact .inl (by omega)
      · exact .inr ⟨x, hx, h1⟩
    · rintro (h1 | ⟨x, hx, h1⟩)
      · exact ⟨b, ⟨hb, h0⟩, by rw [e, if_pos rfl, h1]⟩
      · refine ⟨x, hx, ?_⟩
        rw [e, if_neg]
        · exact h1
        · intro e2; subst e2; omega
  | @push l b m o o' t t' hb hf h0 hm hs ih =>
    intro ho ht _ hO hl
    have e1 : ∀ x : Nat, rdOf false (t.set b true) (x : Int) = if x = b then true else rdOf false t (x : Int) := fun x => rdOf_setn _ _ _ _ (by omega)
    have sub : ∀ x : Nat, (x < nb ∧ rdOf false (t.set b true) (x : Int) = false) ↔ (x < nb ∧ rdOf false t (x : Int) = false) ∧ x ≠ b := fun x => by
      rw [e1]; split
      · simp_all
      · simp_all
    have e : ∀ x : Nat, rd (o'.set b (l : Int)) (x : Int) = if x = b then (l : Int) else rd o' (x : Int) := fun x => rd_setn _ _ _ _ (by have := hs.len; omega)
    obtain ⟨hO', hL⟩ := ih ho (by simpa using ht) rfl ⟨fun x y k hx hy => hO.inj x y k ((sub x).mp hx).1 ((sub y).mp hy).1, fun x k hx => hO.fit x k ((sub x).mp hx).1⟩
      (fun x h1 h2 h3 => ((sub x).mp ⟨h1, h2⟩).2 (hO.inj x b m ((sub x).mp ⟨h1, h2⟩).1 ⟨hb, h0⟩ h3 hm))
    have hlm : l ≠ m := fun e2 => hl b hb h0 (by rw [hm, e2])
    have hlo : ∀ x : Nat, x < nb → rdOf false t (x : Int) = false → x ≠ b → rd o' (x : Int) ≠ (l : Int) := fun x h1 h2 h3 h4 => by
      rcases (hL l).mp ⟨x, (sub x).mpr ⟨⟨h1, h2⟩, h3⟩, h4⟩ with h5 | ⟨y, h5, h6⟩
      · exact hlm h5
      · exact hl y ((sub y).mp h5).1.1 ((sub y).mp h5).1.2 h6
    refine ⟨⟨fun x y k hx hy h1 h2 => ?_, fun x k hx h1 => ?_⟩, fun k => ⟨?_, ?_⟩⟩
    · rw [e] at h1 h2
      split at h1 <;> split at h2
      · omega
      · rename_i q1 q2; exact absurd (show rd o' (y : Int) = (l : Int) by omega) (hlo y hy.1 hy.2 q2)
      · rename_i q1 q2; exact absurd (show rd o' (x : Int) = (l : Int) by omega) (hlo x hx.1 hx.2 q1)
      · rename_i q1 q2; exact hO'.inj x y k ((sub x).mpr ⟨hx, q1⟩) ((sub y).mpr ⟨hy, q2⟩) h1 h2
    · rw [e] at h1
      split at h1
      · obtain rfl : l = k := by omega
        subst x; exact hf
      · rename_i q; exact hO'.fit x k ((sub x).mpr ⟨hx, q⟩) h1
    · rintro ⟨x, hx, h1⟩
      rw [e] at h1
      split at h1
      · exact .inl (by omega)
      · rename_i q
        rcases (hL k).mp ⟨x, (sub x).mpr ⟨hx, q⟩, h1⟩ with h2 | ⟨y, h2, h3⟩
        · exact .inr ⟨b, ⟨hb, h0⟩, by rw [hm, h2]⟩
        · exact .inr ⟨y, ((sub y).mp h2).1, h3⟩
    · rintro (h1 | ⟨x, hx, h1⟩)
      · exact ⟨b, ⟨hb, h0⟩, by rw [e, if_pos rfl, h1]⟩
      · have : k = m ∨ ∃ y : Nat, (y < nb ∧ rdOf false (t.set b true) (y : Int) = false) ∧ rd o (y : Int) = (k : Int) := by
          by_cases q : x = b
          · subst q; exact .inl (by omega)
          · exact .inr ⟨x, (sub x).mpr ⟨hx, q⟩, h1⟩
        obtain ⟨y, hy, hy2⟩ := (hL k).mpr this
        exact ⟨y, ((sub y).mp hy).1, by rw [e, if_neg ((sub y).mp hy).2]; exact hy2⟩
  | @fail l b m o o' o'' t t' t'' r hb hf h0 hm hs hq ih1 ih2 =>
    intro ho ht hr hO hl
    have ln := hs.len; simp at ln
    obtain ⟨rfl, _, _⟩ := hs.fails (by simpa using ht) rfl
    have mo : ∀ x : Nat, rdOf false t' (x : Int) = false → rdOf false t (x : Int) = false := fun x hx => by
      cases hh : rdOf false t (x : Int) with
      | false => rfl
      | true => rw [hs.mono (by simpa using ht) x (by rw [rdOf_setn _ _ _ _ (by omega)]; split <;> simp_all)] at hx; cases hx
    obtain ⟨hO', hL⟩ := ih2 ho (by omega) hr ⟨fun x y k hx hy => hO.inj x y k ⟨hx.1, mo x hx.2⟩ ⟨hy.1, mo y hy.2⟩, fun x k hx => hO.fit x k ⟨hx.1, mo x hx.2⟩⟩ (fun x h1 h2 => hl x h1 (mo x h2))
    have kp := hq.kept ho (by omega)
    have two : ∀ x : Nat, rdOf false t' (x : Int) = false ∨ rd o'' (x : Int) = rd o' (x : Int) := fun x => by
      cases hh : rdOf false t' (x : Int) with
      | false => exact .inl rfl
      | true => exact .inr (kp x hh)
    have cross : ∀ (x y k : Nat), x < nb → rdOf false t' (x : Int) = false → y < nb → rdOf false t (y : Int) = false → rdOf false t' (y : Int) = true → rd o'' (x : Int) = (k : Int) → rd o'' (y : Int) = (k : Int) → False := fun x y k h1 h2 h3 h4 h5 h6 h7 => by
      rw [kp y h5] at h7
      rcases (hL k).mp ⟨x, ⟨h1, h2⟩, h6⟩ with h8 | ⟨z, h8, h9⟩
      · exact hl y h3 h4 (by rw [h7, h8])
      · have := hO.inj z y k ⟨h8.1, mo z h8.2⟩ ⟨h3, h4⟩ h9 h7
        subst this; rw [h5] at h8; cases h8.2
    refine ⟨⟨fun x y k hx hy h1 h2 => ?_, fun x k hx h1 => ?_⟩, fun k => ⟨?_, ?_⟩⟩
    · cases hx2 : rdOf false t' (x : Int) <;> cases hy2 : rdOf false t' (y : Int)
      · exact hO'.inj x y k ⟨hx.1, hx2⟩ ⟨hy.1, hy2⟩ h1 h2
      · exact (cross x y k hx.1 hx2 hy.1 hy.2 hy2 h1 h2).elim
      · exact (cross y x k hy.1 hy2 hx.1 hx.2 hx2 h2 h1).elim
      · rw [kp x hx2] at h1; rw [kp y hy2] at h2; exact hO.inj x y k hx hy h1 h2
    · cases hx2 : rdOf false t' (x : Int)
      · exact hO'.fit x k ⟨hx.1, hx2⟩ h1
      · rw [kp x hx2] at h1; exact hO.fit x k hx h1
    · rintro ⟨x, hx, h1⟩
      cases hx2 : rdOf false t' (x : Int)
      · rcases (hL k).mp ⟨x, ⟨hx.1, hx2⟩, h1⟩ with h2 | ⟨y, h2, h3⟩
        · exact .inl h2
        · exact .inr ⟨y, ⟨h2.1, mo y h2.2⟩, h3⟩
      · rw [kp x hx2] at h1; exact .inr ⟨x, hx, h1⟩
    · rintro (h1 | ⟨x, hx, h1⟩)
      · obtain ⟨y, hy, hy2⟩ := (hL k).mpr (.inl h1)
        exact ⟨y, ⟨hy.1, mo y hy.2⟩, hy2⟩
      · cases hx2 : rdOf false t' (x : Int)
        · obtain ⟨y, hy, hy2⟩ := (hL k).mpr (.inr ⟨x, ⟨hx.1, hx2⟩, h1⟩)
          exact ⟨y, ⟨hy.1, mo y hy.2⟩, hy2⟩
        · exact ⟨x, hx, by rw [kp x hx2]; exact h1⟩
def cnt (p : Nat → Bool) : Nat → Nat
  | 0 => 0
  | n + 1 => cnt p n + (p n).toNat
theorem cnt_congr {p q : Nat → Bool} {n : Nat} (h : ∀ i, i < n → p i = q i) : cnt p n = cnt q n := by
  induction n with
  | zero => rfl
  | succ n ih => simp only [cnt]; rw [ih fun i hi => h i (by omega), h n (by omega)]
theorem cnt_le (p : Nat → Bool) (n : Nat) : cnt p n ≤ n := by
  induction n with
  | zero => simp [cnt]
  | succ n ih => simp only [cnt]; cases p n <;> simp <;> omega
theorem cnt_not (p : Nat → Bool) (n : Nat) : cnt p n + cnt (fun i => !p i) n = n := by
  induction n with
  | zero => rfl
  | succ n ih => simp only [cnt]; cases p n <;> simp <;> omega
theorem cnt_out {p : Nat → Bool} {n j : Nat} (hj : j < n) (hp : p j = true) : cnt p n = cnt (fun i => p i && decide (i ≠ j)) n + 1 := by
  induction n with
  | zero => omega
  | succ n ih =>
    simp only [cnt]
    by_cases e : j = n
    · subst e
      have : cnt (fun i => p i && decide (i ≠ j)) j = cnt p j := cnt_congr fun i hi => by simp; omega
      rw [this, hp]; simp
    · rw [ih (by omega)]
      have : (p n && decide (n ≠ j)) = p n := by simp; omega
      rw [this]; omega
theorem cnt_inj {q : Nat → Bool} {m : Nat} (f : Nat → Nat) (p : Nat → Bool) (n : Nat) (h : ∀ i, i < n → p i = true → f i < m ∧ q (f i) = true) (hi : ∀ i j, i < n → j < n → p i = true → p j = true → f i = f j → i = j) : cnt p n ≤ cnt q m := by
  induction n generalizing q with
  | zero => simp [cnt]
  | succ n ih =>
    simp only [cnt]
    cases hp : p n with
    | false => simp only [Bool.toNat_false, Nat.add_zero]; exact ih (fun i hi2 => h i (by omega)) fun i j h1 h2 => hi i j (by omega) (by omega)
    | true =>
      obtain ⟨h1, h2⟩ := h n (by omega) hp
      rw [cnt_out h1 h2]
      have := ih (q := fun i => q i && decide (i ≠ f n)) (fun i hi2 hpi => by
        obtain ⟨a, b⟩ := h i (by omega) hpi
        refine ⟨a, ?_⟩
        simp only [Bool.and_eq_true, decide_eq_true_eq]
        exact ⟨b, fun e => by have := hi i n (by omega) (by omega) hpi hp e; omega⟩) fun i j h1 h2 => hi i j (by omega) (by omega)
      simp only [Bool.toNat_true]; omega
theorem cnt_add (p : Nat → Bool) (n m : Nat) : cnt p (n + m) = cnt p n + cnt (fun i => p (n + i)) m := by
  induction m with
  | zero => rfl
  | succ m ih => rw [← Nat.add_assoc]; simp only [cnt]; rw [ih]; omega
theorem Tk.ex (F : Nat → Nat → Bool) (nb : Nat) : ∀ (u l b : Nat) (o : List Int) (t : List Bool), o.length = nb → t.length = nb → (∀ x : Nat, x < nb → -1 ≤ rd o (x : Int)) → cnt (fun i => !rdOf false t (i : Int)) nb = u →
    ∃ r o' t', Tk F nb l b o t r o' t' ∧ (∀ x : Nat, x < nb → -1 ≤ rd o' (x : Int)) ∧ cnt (fun i => !rdOf false t' (i : Int)) nb ≤ u := by
  intro u
  induction u using Nat.strongRecOn with
  | _ u ihu =>
    have inner : ∀ d l b (o : List Int) (t : List Bool), b + d = nb → o.length = nb → t.length = nb → (∀ x : Nat, x < nb → -1 ≤ rd o (x : Int)) → cnt (fun i => !rdOf false t (i : Int)) nb ≤ u →
        ∃ r o' t', Tk F nb l b o t r o' t' ∧ (∀ x : Nat, x < nb → -1 ≤ rd o' (x : Int)) ∧ cnt (fun i => !rdOf false t' (i : Int)) nb ≤ u := by
      intro d
      induction d with
      | zero => intro l b o t hb ho ht hr hu; exact ⟨false, o, t, .done (by omega), hr, hu⟩
      | succ d ih =>
        intro l b o t hb ho ht hr hu
        have hb' : b < nb := by omega
        by_cases hs : F l b = false ∨ rdOf false t (b : Int) = true
        · obtain ⟨r, o', t', h1, h2, h3⟩ := ih l (b + 1) o t (by omega) ho ht hr hu
          exact ⟨r, o', t', .skip hb' hs h1, h2, h3⟩
        · have hf : F l b = true := by cases hh : F l b <;> simp_all
          have h0 : rdOf false t (b : Int) = false := by cases hh : rdOf false t (b : Int) <;> simp_all
          have e : cnt (fun i => !rdOf false t (i : Int)) nb = cnt (fun i => !rdOf false (t.set b true) (i : Int)) nb + 1 := by
            rw [cnt_out hb' (by rw [h0]; rfl)]
            congr 1
            refine cnt_congr fun i hi => ?_
            rw [rdOf_setn _ _ _ _ (by omega)]; split <;> simp_all
          by_cases hn : rd o (b : Int) < 0
          · refine ⟨true, _, _, .free hb' hf h0 hn, fun x hx => ?_, by omega⟩
            rw [rd_setn _ _ _ _ (by omega)]; split
            · omega
            · exact hr x hx
          · obtain ⟨m, hm⟩ : ∃ m : Nat, rd o (b : Int) = m := ⟨(rd o (b : Int)).toNat, by omega⟩
            obtain ⟨r1, o1, t1, h1, h2, h3⟩ := ihu _ (show cnt (fun i => !rdOf false (t.set b true) (i : Int)) nb < u by omega) m 0 o (t.set b true) ho (by simpa using ht) hr rfl
            have ln := h1.len
            cases r1 with
            | true =>
              refine ⟨true, _, _, .push hb' hf h0 hm h1, fun x hx => ?_, by omega⟩
              rw [rd_setn _ _ _ _ (by omega)]; split
              · omega
              · exact h2 x hx
            | false =>
              obtain ⟨r, o', t', g1, g2, g3⟩ := ih l (b + 1) o1 t1 (by omega) (by omega) (by simp at ln; omega) h2 (by omega)
              exact ⟨r, o', t', .fail hb' hf h0 hm h1 g1, g2, g3⟩
    intro l b o t ho ht hr hu
    rcases Nat.lt_or_ge nb b with h | h
    · exact ⟨false, o, t, .done (by omega), hr, by omega⟩
    · exact inner (nb - b) l b o t (by omega) ho ht hr (by omega)
inductive Ks (F : Nat → Nat → Bool) (nb n : Nat) : Nat → List Int → List Int → Prop where
  | done {j : Nat} {o : List Int} : n ≤ j → Ks F nb n j o o
  | step {j : Nat} {o o' o'' : List Int} {t' : List Bool} {r : Bool} : j < n → Tk F nb j 0 o (List.replicate nb false) r o' t' → Ks F nb n (j + 1) o' o'' → Ks F nb n j o o''
structure Kuhn (F : Nat → Nat → Bool) (nb n : Nat) (o : List Int) : Prop where
  len : o.length = nb
  rng : ∀ x : Nat, x < nb → -1 ≤ rd o (x : Int) ∧ rd o (x : Int) < n
  inj : ∀ (x y m : Nat), x < nb → y < nb → rd o (x : Int) = (m : Int) → rd o (y : Int) = (m : Int) → x = y
  fit : ∀ (x m : Nat), x < nb → rd o (x : Int) = (m : Int) → F m x = true
  dead : ∃ D : Nat → Prop, (∀ x, D x → x < nb ∧ ∃ m : Nat, rd o (x : Int) = (m : Int) ∧ ∀ y, y < nb → F m y = true → D y) ∧ ∀ l, l < n → (∀ x : Nat, x < nb → rd o (x : Int) ≠ (l : Int)) → ∀ y, y < nb → F l y = true → D y
theorem rdOf_rep (nb x : Nat) : rdOf false (List.replicate nb false) (x : Int) = false := by
  simp only [rdOf, Int.toNat_natCast, List.getD_eq_getElem?_getD, List.getElem?_replicate]; split <;> rfl
theorem rd_rep (nb x : Nat) (v : Int) (h : x < nb) : rd (List.replicate nb v) (x : Int) = v := by
  simp [rd, List.getD_eq_getElem?_getD, List.getElem?_replicate, h]
theorem Kuhn.next {F : Nat → Nat → Bool} {nb j : Nat} {o o' : List Int} {t' : List Bool} {r : Bool} (h : Kuhn F nb j o) (ht : Tk F nb j 0 o (List.replicate nb false) r o' t') : Kuhn F nb (j + 1) o' := by
  obtain ⟨len, rng, inj, fit, D, hD, hU⟩ := h
  have ln := ht.len
  have rng' := ht.rng (n := j + 1) len (by omega) (fun x hx => by have := rng x hx; omega)
  have all : ∀ x : Nat, (x < nb ∧ rdOf false (List.replicate nb false) (x : Int) = false) ↔ x < nb := fun x => by rw [rdOf_rep]; simp
  obtain ⟨d1, d2⟩ := ht.dead D len hD
  cases r with
  | true =>
    obtain ⟨hO, hL⟩ := ht.takes len (by simp) rfl ⟨fun x y m hx hy => inj x y m hx.1 hy.1, fun x m hx => fit x m hx.1⟩ (fun x h1 _ h2 => by have := rng x h1; omega)
    refine ⟨by omega, rng', fun x y m hx hy => hO.inj x y m ((all x).mpr hx) ((all y).mpr hy), fun x m hx => hO.fit x m ((all x).mpr hx), D, fun x hx => ?_, fun l hl hu => ?_⟩
    · obtain ⟨h1, m, h2, h3⟩ := hD x hx
      exact ⟨h1, m, by rw [d1 x hx]; exact h2, h3⟩
    · refine hU l ?_ fun x hx hx2 => ?_
      · rcases Nat.lt_or_ge l j with h | h
        · exact h
        · obtain rfl : l = j := by omega
          obtain ⟨x, hx, hx2⟩ := (hL l).mpr (.inl rfl)
          exact absurd hx2 (hu x hx.1)
      · obtain ⟨y, hy, hy2⟩ := (hL l).mpr (.inr ⟨x, (all x).mpr hx, hx2⟩)
        exact hu y hy.1 hy2
  | false =>
    obtain ⟨rfl, f1, f2⟩ := ht.fails (by simp) rfl
    refine ⟨len, rng', inj, fit, fun x => x < nb ∧ (D x ∨ rdOf false t' (x : Int) = true), fun x hx => ?_, fun l hl hu y hy hF => ?_⟩
    · obtain ⟨h0, hx | hx⟩ := hx
      · obtain ⟨h1, m, h2, h3⟩ := hD x hx
        exact ⟨h1, m, h2, fun y hy hF => ⟨hy, .inl (h3 y hy hF)⟩⟩
      · rcases f2 x h0 hx with h | ⟨m, h1, h2⟩
        · rw [rdOf_rep] at h; cases h
        · exact ⟨h0, m, h1, fun y hy hF => ⟨hy, .inr (h2 y hy hF)⟩⟩
    · rcases Nat.lt_or_ge l j with h | h
      · exact ⟨hy, .inl (hU l h hu y hy hF)⟩
      · obtain rfl : l = j := by omega
        exact ⟨hy, .inr (f1 y (Nat.zero_le _) hy hF)⟩
theorem Kuhn.ex (F : Nat → Nat → Bool) (nb n : Nat) : ∀ (d j : Nat) (o : List Int), j + d = n → Kuhn F nb j o → ∃ o', Ks F nb n j o o' ∧ Kuhn F nb n o' := by
  intro d
  induction d with
  | zero => intro j o hj h; obtain rfl : j = n := by omega
            exact ⟨o, .done (Nat.le_refl _), h⟩
  | succ d ih =>
    intro j o hj h
    obtain ⟨r, o', t', h1, _, _⟩ := Tk.ex F nb _ j 0 o (List.replicate nb false) h.len (by simp) (fun x hx => (h.rng x hx).1) rfl
    obtain ⟨o'', h2, h3⟩ := ih (j + 1) o' (by omega) (h.next h1)
    exact ⟨o'', .step (by omega) h1 h2, h3⟩
theorem Kuhn.start (F : Nat → Nat → Bool) (nb : Nat) : Kuhn F nb 0 (List.replicate nb (-1)) := by
  have e : ∀ x : Nat, x < nb → rd (List.replicate nb (-1)) (x : Int) = -1 := fun x hx => rd_rep nb x (-1) hx
  refine ⟨by simp, fun x hx => by rw [e x hx]; omega, fun x y m hx _ h => by rw [e x hx] at h; omega, fun x m hx h => by rw [e x hx] at h; omega, fun _ => False, fun _ h => h.elim, fun l hl => by omega⟩
theorem kuhn (F : Nat → Nat → Bool) (nb n : Nat) : ∃ o, Ks F nb n 0 (List.replicate nb (-1)) o ∧ Kuhn F nb n o := Kuhn.ex F nb n n 0 _ (by omega) (Kuhn.start F nb)

theorem rep_one (x : Int) (n : Nat) (h : n ≤ 1048576) : slices_Repeat_int_int.f [x] (n : Int) = some (List.replicate n x) := by
  simp only [slices_Repeat_int_int.f]; rw [if_pos (by omega), toNat_nat]

def nbOf (fits : List (List Bool)) : Nat := (fits.getD 0 []).length
def rowOk (fits : List (List Bool)) (r : List Bool) : Bool := decide (r.length = nbOf fits) && decide (r.length ≤ 8)
def fitOk (fits : List (List Bool)) : Bool := decide (fits.length ≤ 8) && fits.all (rowOk fits)
def fitF (fits : List (List Bool)) (l b : Nat) : Bool := rdOf false (fits.getD l []) (b : Int)
theorem fits_rd (fits : List (List Bool)) (i : Nat) : rd_L7 fits (i : Int) = fits.getD i [] := by simp [rd_L7]
theorem fits_rd0 (fits : List (List Bool)) : rd_L7 fits 0 = fits.getD 0 [] := by simp [rd_L7]
theorem fits_get (fits : List (List Bool)) (i : Nat) (h : i < fits.length) : fits.getD i [] = fits[i] := by simp [h]
theorem fitOk_iff (fits : List (List Bool)) : fitOk fits = true ↔ fits.length ≤ 8 ∧ nbOf fits ≤ 8 ∧ ∀ i, i < fits.length → (fits.getD i []).length = nbOf fits := by
  simp only [fitOk, rowOk, Bool.and_eq_true, decide_eq_true_eq, List.all_eq_true]
  constructor
  · rintro ⟨h1, h2⟩
    refine ⟨h1, ?_, fun i hi => ?_⟩
    · rcases Nat.eq_zero_or_pos fits.length with h0 | h0
      · have : fits = [] := List.length_eq_zero_iff.mp h0
        subst this; simp [nbOf]
      · have := h2 fits[0] (List.getElem_mem h0)
        have e : nbOf fits = fits[0].length := by unfold nbOf; rw [fits_get fits 0 h0]
        omega
    · rw [fits_get fits i hi]; exact (h2 _ (List.getElem_mem hi)).1
  · rintro ⟨h1, h2, h3⟩
    refine ⟨h1, fun r hr => ?_⟩
    obtain ⟨i, hi, rfl⟩ := List.getElem_of_mem hr
    have := h3 i hi
    rw [fits_get fits i hi] at this
    omega

theorem impl_GoodFits_ev (fits : List (List Bool)) (h : fits.length ≤ 1048576) : Ev (fun k => impl_GoodFits.f k fits) (fitOk fits) := by
  unfold impl_GoodFits.f sl0_ContainsFunc.f sl2_IndexFunc.f
  by_cases h8 : (fits.length : Int) ≤ 8
  · refine Ev.pos h8 ?_
    obtain ⟨j, hj, hev⟩ := ev_indexFunc fits (rd_L7 fits) (fun i hi => by rw [fits_rd, fits_get fits i hi]) (fun _ x => impl_GoodFits_1.f x fits) (fun r => !rowOk fits r) (fun x hx => by
      have h0 : 0 < fits.length := List.length_pos_of_mem hx
      refine Ev.of_eq fun _ => ?_
      unfold impl_GoodFits_1.f
      by_cases hx8 : (x.length : Int) > 8
      · rw [if_pos hx8]; simp [rowOk]; omega
      · rw [if_neg hx8, if_pos (by omega), fits_rd0]
        have : decide (x.length ≤ 8) = true := by simp; omega
        have hd : ((x.length : Int) != ((fits.getD 0 []).length : Int)) = !decide (x.length = (fits.getD 0 []).length) := by
          by_cases e : x.length = (fits.getD 0 []).length
          · rw [e]; simp
          · rw [decide_eq_false e]; simp only [bne, Bool.not_false, Bool.not_eq_true']; exact beq_eq_false_iff_ne.mpr (by omega)
        rw [hd]; unfold rowOk nbOf; rw [this, Bool.and_true]) (fun k i => sl2_IndexFunc.l0 k fits (fits.length : Int) i fits) (fun k i => rfl) (by omega)
    refine Ev.to (Ev.bind (Ev.bind hev (Ev.now _)) (Ev.now _)) ?_
    rw [hj, any_not_all]; unfold fitOk
    rw [decide_eq_true (show fits.length ≤ 8 by omega)]; simp
  · refine Ev.to (Ev.neg h8 (Ev.now _)) ?_
    unfold fitOk; rw [decide_eq_false (by omega)]; rfl

theorem spec_GoodFits_ev (fits : List (List Bool)) (h : fits.length ≤ 1048576) : Ev (fun k => spec_GoodFits.f k fits) (fitOk fits) := by
  unfold spec_GoodFits.f
  have gen : ∀ (d i : Nat), i + d = fits.length → Ev (fun k => spec_GoodFits.l0 k fits fits (fits.length : Int) (i : Int)) ((fits.drop i).all (rowOk fits) && decide (fits.length ≤ 8)) := by
    intro d
    induction d with
    | zero =>
      intro i hi
      rw [List.drop_of_length_le (by omega)]
      refine Ev.succ ?_
      simp only [spec_GoodFits.l0]
      refine Ev.neg (by omega) (Ev.to (Ev.now _) ?_)
      simp; omega
    | succ d ih =>
      intro i hi
      have hi' : i < fits.length := by omega
      rw [List.drop_eq_getElem_cons hi', List.all_cons]
      refine Ev.succ ?_
      simp only [spec_GoodFits.l0]
      refine Ev.pos (by omega) (Ev.pos (by omega) (Ev.pos (by omega) (Ev.pos (by omega) ?_)))
      rw [fits_rd, fits_rd0, fits_get fits i hi', w64n hi' (by omega)]
      refine Ev.ite (fun h1 => Ev.ite (fun h2 => ?_) (fun h2 => ?_)) (fun h1 => ?_)
      · have : rowOk fits fits[i] = false := by unfold rowOk nbOf; rw [decide_eq_false (show ¬ fits[i].length ≤ 8 by omega)]; simp
        rw [this]; exact Ev.now _
      · have : rowOk fits fits[i] = true := by unfold rowOk nbOf; rw [decide_eq_true (show fits[i].length ≤ 8 by omega), decide_eq_true (by omega)]; rfl
        rw [this, Bool.true_and]; exact ih (i + 1) (by omega)
      · have : rowOk fits fits[i] = false := by unfold rowOk nbOf; rw [decide_eq_false (by omega)]; rfl
        rw [this]; exact Ev.now _
  refine Ev.to (gen fits.length 0 (by omega)) ?_
  unfold fitOk; rw [List.drop_zero, Bool.and_comm]

theorem spec_take_ev {fits : List (List Bool)} {nb l b : Nat} {o o' : List Int} {t t' : List Bool} {r : Bool} (hw : ∀ i, i < fits.length → (fits.getD i []).length = nb) (hb8 : nb ≤ 8) (h : Tk (fitF fits) nb l b o t r o' t') :
    b ≤ nb → o.length = nb → t.length = nb → l < fits.length → (∀ x : Nat, x < nb → -1 ≤ rd o (x : Int) ∧ rd o (x : Int) < fits.length) → Ev (fun k => spec_l8Take.l0 k fits (l : Int) o t (fits.getD l []) (nb : Int) (b : Int)) (r, o', t') := by
  have enter : ∀ {m : Nat} {o t r}, m < fits.length → Ev (fun k => spec_l8Take.l0 k fits (m : Int) o t (fits.getD m []) (nb : Int) ((0 : Nat) : Int)) r → Ev (fun k => spec_l8Take.f k fits (m : Int) o t) r := fun {m o t r} hm hE => by
    refine Ev.succ ?_
    simp only [spec_l8Take.f]
    refine Ev.pos (by omega) (Ev.pos (by omega) ?_)
    rw [fits_rd, hw m hm]; exact hE
  induction h with
  | done hb => intro _ _ _ _ _; refine Ev.succ ?_; simp only [spec_l8Take.l0]; exact Ev.neg (by omega) (Ev.now _)
  | @skip l b o o' t t' r hb hc hs ih =>
    intro _ ho ht hl hr
    have hi := ih (by omega) ho ht hl hr
    refine Ev.succ ?_
    simp only [spec_l8Take.l0]
    rw [w64n hb (by omega)]
    refine Ev.pos (by omega) (Ev.pos (by omega) (Ev.pos (by rw [hw l hl]; omega) (Ev.ite (fun hf => Ev.pos (by omega) (Ev.pos ?_ hi)) (fun _ => hi))))
    rcases hc with hc | hc
    · rw [show rdOf false (fits.getD l []) (b : Int) = fitF fits l b from rfl, hc] at hf; cases hf
    · exact hc
  | @free l b o t hb hf h0 hn =>
    intro _ ho ht hl hr
    refine Ev.succ ?_
    simp only [spec_l8Take.l0]
    refine Ev.pos (by omega) (Ev.pos (by omega) (Ev.pos (by rw [hw l hl]; omega) (Ev.pos hf (Ev.pos (by omega) (Ev.neg (by rw [h0]; simp) (Ev.bind0 rfl (Ev.pos (by omega) (Ev.pos hn (Ev.to (Ev.now _) ?_)))))))))
    rw [toNat_nat]
  | @push l b m o o' t t' hb hf h0 hm hs ih =>
    intro _ ho ht hl hr
    have hml : m < fits.length := by have := (hr b hb).2; omega
    have hi := enter hml (ih (Nat.zero_le _) ho (by simpa using ht) hml hr)
    refine Ev.succ ?_
    simp only [spec_l8Take.l0]
    refine Ev.pos (by omega) (Ev.pos (by omega) (Ev.pos (by rw [hw l hl]; omega) (Ev.pos hf (Ev.pos (by omega) (Ev.neg (by rw [h0]; simp) (Ev.bind0 rfl (Ev.pos (by omega) (Ev.neg (by omega) ?_))))))))
    rw [toNat_nat, hm]
    exact Ev.bind hi (Ev.pos rfl (Ev.now _))
  | @fail l b m o o' o'' t t' t'' r hb hf h0 hm hs hq ih1 ih2 =>
    intro _ ho ht hl hr
    have hml : m < fits.length := by have := (hr b hb).2; omega
    have ln := hs.len
    simp only [List.length_set] at ln
    have hi := enter hml (ih1 (Nat.zero_le _) ho (by simpa using ht) hml hr)
    have hj := ih2 (by omega) (by omega) (by omega) hl (hs.rng ho hml hr)
    refine Ev.succ ?_
    simp only [spec_l8Take.l0]
    refine Ev.pos (by omega) (Ev.pos (by omega) (Ev.pos (by rw [hw l hl]; omega) (Ev.pos hf (Ev.pos (by omega) (Ev.neg (by rw [h0]; simp) (Ev.bind0 rfl (Ev.pos (by omega) (Ev.neg (by omega) ?_))))))))
    rw [toNat_nat, hm, w64n hb (by omega)]
    exact Ev.bind hi (Ev.neg (by simp) hj)

theorem impl_take_ev {fits : List (List Bool)} {nb l b : Nat} {o o' : List Int} {t t' : List Bool} {r : Bool} (hw : ∀ i, i < fits.length → (fits.getD i []).length = nb) (hb8 : nb ≤ 8) (h : Tk (fitF fits) nb l b o t r o' t') :
    b ≤ nb → o.length = nb → t.length = nb → l < fits.length → (∀ x : Nat, x < nb → -1 ≤ rd o (x : Int) ∧ rd o (x : Int) < fits.length) → Ev (fun k => impl_matcher_take_own.l0 k (l : Int) t (fits.getD l []) (nb : Int) (b : Int) fits o) (r, o', t') := by
  have enter : ∀ {m : Nat} {o t r}, m < fits.length → Ev (fun k => impl_matcher_take_own.l0 k (m : Int) t (fits.getD m []) (nb : Int) ((0 : Nat) : Int) fits o) r → Ev (fun k => impl_matcher_take_own.f k fits o (m : Int) t) r := fun {m o t r} hm hE => by
    refine Ev.succ ?_
    simp only [impl_matcher_take_own.f]
    refine Ev.pos (by omega) (Ev.pos (by omega) ?_)
    rw [fits_rd, hw m hm]; exact hE
  induction h with
  | done hb => intro _ _ _ _ _; refine Ev.succ ?_; simp only [impl_matcher_take_own.l0]; exact Ev.neg (by omega) (Ev.now _)
  | @skip l b o o' t t' r hb hc hs ih =>
    intro _ ho ht hl hr
    have hi := ih (by omega) ho ht hl hr
    refine Ev.succ ?_
    simp only [impl_matcher_take_own.l0]
    rw [w64n hb (by omega)]
    refine Ev.pos (by omega) (Ev.pos (by omega) (Ev.pos (by rw [hw l hl]; omega) (Ev.ite (fun hf => Ev.pos (by omega) (Ev.pos ?_ hi)) (fun _ => hi))))
    rcases hc with hc | hc
    · rw [show rdOf false (fits.getD l []) (b : Int) = fitF fits l b from rfl, hc] at hf; cases hf
    · exact hc
  | @free l b o t hb hf h0 hn =>
    intro _ ho ht hl hr
    refine Ev.succ ?_
    simp only [impl_matcher_take_own.l0]
    refine Ev.pos (by omega) (Ev.pos (by omega) (Ev.pos (by rw [hw l hl]; omega) (Ev.pos hf (Ev.pos (by omega) (Ev.neg (by rw [h0]; simp) (Ev.bind0 rfl (Ev.pos (by omega) (Ev.pos hn (Ev.to (Ev.now _) ?_)))))))))
    rw [toNat_nat]
  | @push l b m o o' t t' hb hf h0 hm hs ih =>
    intro _ ho ht hl hr
    have hml : m < fits.length := by have := (hr b hb).2; omega
    have hi := enter hml (ih (Nat.zero_le _) ho (by simpa using ht) hml hr)
    refine Ev.succ ?_
    simp only [impl_matcher_take_own.l0]
    refine Ev.pos (by omega) (Ev.pos (by omega) (Ev.pos (by rw [hw l hl]; omega) (Ev.pos hf (Ev.pos (by omega) (Ev.neg (by rw [h0]; simp) (Ev.bind0 rfl (Ev.pos (by omega) (Ev.neg (by omega) ?_))))))))
    rw [toNat_nat, hm]
    exact Ev.bind hi (Ev.pos rfl (Ev.now _))
  | @fail l b m o o' o'' t t' t'' r hb hf h0 hm hs hq ih1 ih2 =>
    intro _ ho ht hl hr
    have hml : m < fits.length := by have := (hr b hb).2; omega
    have ln := hs.len
    simp only [List.length_set] at ln
    have hi := enter hml (ih1 (Nat.zero_le _) ho (by simpa using ht) hml hr)
    have hj := ih2 (by omega) (by omega) (by omega) hl (hs.rng ho hml hr)
    refine Ev.succ ?_
    simp only [impl_matcher_take_own.l0]
    refine Ev.pos (by omega) (Ev.pos (by omega) (Ev.pos (by rw [hw l hl]; omega) (Ev.pos hf (Ev.pos (by omega) (Ev.neg (by rw [h0]; simp) (Ev.bind0 rfl (Ev.pos (by omega) (Ev.neg (by omega) ?_))))))))
    rw [toNat_nat, hm, w64n hb (by omega)]
    exact Ev.bind hi (Ev.neg (by simp) hj)

def matchAt (o : List Int) (n : Nat) : Nat → List Int
  | 0 => List.replicate n (-1)
  | i + 1 => if rd o (i : Int) ≥ 0 then (matchAt o n i).set (rd o (i : Int)).toNat (i : Int) else matchAt o n i
theorem matchAt_len (o : List Int) (n i : Nat) : (matchAt o n i).length = n := by
  induction i with
  | zero => simp [matchAt]
  | succ i ih => simp only [matchAt]; split <;> simp [ih]
theorem matchAt_none {o : List Int} {n l : Nat} (hl : l < n) : ∀ i, (∀ b : Nat, b < i → rd o (b : Int) ≠ (l : Int)) → rd (matchAt o n i) (l : Int) = -1 := by
  intro i
  induction i with
  | zero => intro _; simp only [matchAt]; exact rd_rep n l (-1) hl
  | succ i ih =>
    intro h
    have h1 := ih fun b hb => h b (by omega)
    have h2 := h i (by omega)
    simp only [matchAt]
    by_cases hp : rd o (i : Int) ≥ 0
    · rw [if_pos hp]
      obtain ⟨m, hm⟩ := exists_nat_of_nonneg hp
      rw [hm, toNat_nat]
      by_cases hmn : m < n
      · rw [rd_setn _ _ _ _ (by rw [matchAt_len]; exact hmn), if_neg (by omega)]; exact h1
      · rw [List.set_eq_of_length_le (by rw [matchAt_len]; omega)]; exact h1
    · rw [if_neg hp]; exact h1
theorem matchAt_some {o : List Int} {n l b : Nat} (hl : l < n) (nb : Nat) (hinj : ∀ (x y m : Nat), x < nb → y < nb → rd o (x : Int) = (m : Int) → rd o (y : Int) = (m : Int) → x = y) :
    ∀ i, i ≤ nb → b < i → rd o (b : Int) = (l : Int) → rd (matchAt o n i) (l : Int) = (b : Int) := by
  intro i
  induction i with
  | zero => intro _ h; omega
  | succ i ih =>
    intro hi hb he
    simp only [matchAt]
    by_cases hp : rd o (i : Int) ≥ 0
    · rw [if_pos hp]
      obtain ⟨m, hm⟩ := exists_nat_of_nonneg hp
      rw [hm, toNat_nat]
      by_cases hml : m = l
      · subst hml
        have : i = b := hinj i b m (by omega) (by omega) hm he
        subst this
        rw [rd_setn _ _ _ _ (by rw [matchAt_len]; exact hl), if_pos rfl]
      · have hbi : b < i := by
          rcases Nat.lt_or_ge b i with h | h
          · exact h
          · obtain rfl : b = i := by omega
            omega
        by_cases hmn : m < n
        · rw [rd_setn _ _ _ _ (by rw [matchAt_len]; exact hmn), if_neg (by omega)]; exact ih (by omega) hbi he
        · rw [List.set_eq_of_length_le (by rw [matchAt_len]; omega)]; exact ih (by omega) hbi he
    · rw [if_neg hp]
      refine ih (by omega) ?_ he
      rcases Nat.lt_or_ge b i with h | h
      · exact h
      · obtain rfl : b = i := by omega
        omega

theorem impl_matching_ev (o : List Int) (n nb : Nat) (hn : n ≤ 8) (hb : nb ≤ 8) (ho : o.length = nb) (hr : ∀ x : Nat, x < nb → -1 ≤ rd o (x : Int) ∧ rd o (x : Int) < n) : Ev (fun k => impl_matching.f k (n : Int) o) (matchAt o n nb) := by
  unfold impl_matching.f
  refine Ev.bind0 (rep_one (-1) n (by omega)) ?_
  rw [ho]
  refine ev_up nb (fun k i => impl_matching.l0 k (matchAt o n i) o (nb : Int) (i : Int)) _ (fun _ => True) trivial ?_ ?_
  · intro _; refine Ev.succ ?_; simp only [impl_matching.l0]; exact Ev.neg (by omega) (Ev.now _)
  · intro i hi _ hnx
    have hnx := hnx trivial
    have := hr i hi
    refine Ev.succ ?_
    simp only [impl_matching.l0]
    rw [w64n hi (by omega)]
    simp only [matchAt] at hnx
    refine Ev.pos (by omega) (Ev.pos (by omega) (Ev.pos (by omega) (Ev.ite (fun hp => ?_) (fun hp => ?_))))
    · rw [if_pos hp] at hnx
      exact Ev.pos hp (Ev.pos (by rw [matchAt_len]; omega) hnx)
    · rw [if_neg hp] at hnx; exact hnx

theorem impl_binsOf_eq (fits : List (List Bool)) : impl_binsOf.f fits = some (nbOf fits : Int) := by
  unfold impl_binsOf.f
  by_cases h : (fits.length : Int) = 0
  · rw [if_pos h]
    have : fits = [] := List.length_eq_zero_iff.mp (by omega)
    subst this; rfl
  · rw [if_neg h, if_pos (by omega), fits_rd0]; rfl
theorem impl_matched_ev (fits : List (List Bool)) (hg : fitOk fits = true) {o : List Int} (hK : Ks (fitF fits) (nbOf fits) fits.length 0 (List.replicate (nbOf fits) (-1)) o) : Ev (fun k => impl_matched.f k fits) o := by
  obtain ⟨h8, hb8, hw⟩ := (fitOk_iff fits).mp hg
  unfold impl_matched.f
  refine Ev.bind0 (impl_binsOf_eq fits) (Ev.bind0 (rep_one (-1) (nbOf fits) (by omega)) ?_)
  have gen : ∀ {j : Nat} {o o' : List Int}, Ks (fitF fits) (nbOf fits) fits.length j o o' → o.length = nbOf fits → (∀ x : Nat, x < nbOf fits → -1 ≤ rd o (x : Int) ∧ rd o (x : Int) < fits.length) → Ev (fun k => impl_matched.l0 k (fits.length : Int) (j : Int) fits o) o' := by
    intro j o o' h
    induction h with
    | done hj => intro _ _; refine Ev.succ ?_; simp only [impl_matched.l0]; exact Ev.neg (by omega) (Ev.now _)
    | @step j o o' o'' t' r hj ht hk ih =>
      intro ho hr
      have ln := ht.len
      have e := impl_take_ev hw hb8 ht (Nat.zero_le _) ho (by simp) hj hr
      refine Ev.succ ?_
      simp only [impl_matched.l0]
      rw [w64n hj (by omega), toNat_nat, ho]
      refine Ev.pos (by omega) (Ev.pos (by omega) (Ev.pos (by omega) (Ev.bind (a := (r, o', t')) ?_ (ih (by omega) (ht.rng ho hj hr)))))
      refine Ev.succ ?_
      simp only [impl_matcher_take_own.f]
      refine Ev.pos (by omega) (Ev.pos (by omega) ?_)
      rw [fits_rd, hw j hj]; exact e
  exact gen hK (by simp) (fun x hx => by rw [rd_rep _ _ _ hx]; omega)

theorem spec_l8Bins_eq (fits : List (List Bool)) : spec_l8Bins.f fits = some (nbOf fits : Int) := by
  unfold spec_l8Bins.f
  by_cases h : (fits.length : Int) = 0
  · rw [if_pos h]
    have : fits = [] := List.length_eq_zero_iff.mp (by omega)
    subst this; rfl
  · rw [if_neg h, if_pos (by omega), fits_rd0]; rfl
theorem spec_l8Match_ev (fits : List (List Bool)) (hg : fitOk fits = true) {o : List Int} (hK : Ks (fitF fits) (nbOf fits) fits.length 0 (List.replicate (nbOf fits) (-1)) o) : Ev (fun k => spec_l8Match.f k fits) (matchAt o fits.length (nbOf fits)) := by
  obtain ⟨h8, hb8, hw⟩ := (fitOk_iff fits).mp hg
  unfold spec_l8Match.f
  refine Ev.bind0 (spec_l8Bins_eq fits) ?_
  -- the tail
  have tail : ∀ (o : List Int), o.length = nbOf fits → (∀ x : Nat, x < nbOf fits → -1 ≤ rd o (x : Int) ∧ rd o (x : Int) < fits.length) → Ev (fun k => spec_l8Match.l2 k o (List.replicate fits.length 0) (fits.length : Int) ((0 : Nat) : Int)) (matchAt o fits.length (nbOf fits)) := by
    intro o ho hr
    have fill := ev_up fits.length (fun k i => spec_l8Match.l2 k o (List.replicate i (-1) ++ List.replicate (fits.length - i) 0) (fits.length : Int) (i : Int)) (matchAt o fits.length (nbOf fits)) (fun _ => True) trivial ?_ ?_
    · simpa using fill
    · intro _
      refine Ev.succ ?_
      simp only [spec_l8Match.l2]
      refine Ev.neg (by omega) ?_
      rw [Nat.sub_self, List.replicate_zero, List.append_nil, ho]
      refine ev_up (nbOf fits) (fun k i => spec_l8Match.l3 k (matchAt o fits.length i) o (nbOf fits : Int) (i : Int)) _ (fun _ => True) trivial ?_ ?_
      · intro _; refine Ev.succ ?_; simp only [spec_l8Match.l3]; exact Ev.neg (by omega) (Ev.now _)
      · intro i hi _ hnx
        have hnx := hnx trivial
        have := hr i hi
        refine Ev.succ ?_
        simp only [spec_l8Match.l3]
        rw [w64n hi (by omega)]
        simp only [matchAt] at hnx
        refine Ev.pos (by omega) (Ev.pos (by omega) (Ev.pos (by omega) (Ev.ite (fun hp => ?_) (fun hp => ?_))))
        · rw [if_pos hp] at hnx
          exact Ev.pos hp (Ev.pos (by rw [matchAt_len]; omega) hnx)
        · rw [if_neg hp] at hnx; exact hnx
    · intro i hi _ hnx
      have hnx := hnx trivial
      refine Ev.succ ?_
      simp only [spec_l8Match.l2]
      rw [w64n hi (by omega), toNat_nat]
      refine Ev.pos (by omega) (Ev.pos (by omega) (Ev.pos (by simp; omega) ?_))
      have e : (List.replicate i (-1 : Int) ++ List.replicate (fits.length - i) 0).set i (-1) = List.replicate (i + 1) (-1) ++ List.replicate (fits.length - (i + 1)) 0 := by
        rw [List.set_append_right _ _ (by simp), List.length_replicate, Nat.sub_self, show fits.length - i = (fits.length - (i + 1)) + 1 by omega, List.replicate_succ, List.set_cons_zero, List.replicate_succ', List.append_assoc]; rfl
      rw [e]; exact hnx
  have loads : ∀ {j : Nat} {o o' : List Int}, Ks (fitF fits) (nbOf fits) fits.length j o o' → o.length = nbOf fits → (∀ x : Nat, x < nbOf fits → -1 ≤ rd o (x : Int) ∧ rd o (x : Int) < fits.length) → Ev (fun k => spec_l8Match.l1 k fits o (fits.length : Int) (j : Int)) (matchAt o' fits.length (nbOf fits)) := by
    intro j o o' h
    induction h with
    | @done j o hj =>
      intro ho hr
      refine Ev.succ ?_
      simp only [spec_l8Match.l1]
      refine Ev.neg (by omega) (Ev.pos (by omega) (Ev.pos (by omega) (Ev.bind0 rfl ?_)))
      rw [toNat_nat, List.length_replicate]
      exact tail o ho hr
    | @step j o o' o'' t' r hj ht hk ih =>
      intro ho hr
      have ln := ht.len
      have e := spec_take_ev hw hb8 ht (Nat.zero_le _) ho (by simp) hj hr
      refine Ev.succ ?_
      simp only [spec_l8Match.l1]
      rw [w64n hj (by omega), toNat_nat, ho]
      refine Ev.pos (by omega) (Ev.pos (by omega) (Ev.pos (by omega) (Ev.bind (a := (r, o', t')) ?_ (ih (by omega) (ht.rng ho hj hr)))))
      refine Ev.succ ?_
      simp only [spec_l8Take.f]
      refine Ev.pos (by omega) (Ev.pos (by omega) ?_)
      rw [fits_rd, hw j hj]; exact e
  have bins : ∀ (d i : Nat), i + d = nbOf fits → Ev (fun k => spec_l8Match.l0 k fits (List.replicate i (-1)) (d : Int)) (matchAt o fits.length (nbOf fits)) := by
    intro d
    induction d with
    | zero =>
      intro i hi
      obtain rfl : i = nbOf fits := by omega
      refine Ev.succ ?_
      simp only [spec_l8Match.l0]
      refine Ev.neg (by omega) ?_
      exact loads hK (by simp) (fun x hx => by rw [rd_rep _ _ _ hx]; omega)
    | succ d ih =>
      intro i hi
      refine Ev.succ ?_
      simp only [spec_l8Match.l0]
      rw [w64 (by omega) (by omega), show ((d + 1 : Nat) : Int) - 1 = (d : Int) by omega]
      refine Ev.pos (by omega) (Ev.pos (by simp; omega) ?_)
      have := ih (i + 1) (by omega)
      rwa [List.replicate_succ'] at this
  exact bins (nbOf fits) 0 (by omega)

def matchF (fits : List (List Bool)) (o : List Int) : List Int × Bool := if fitOk fits = true then (matchAt o fits.length (nbOf fits), true) else ([], false)
theorem impl_MatchLoads_ev (fits : List (List Bool)) (h : fits.length ≤ 1048576) {o : List Int} (hK : Ks (fitF fits) (nbOf fits) fits.length 0 (List.replicate (nbOf fits) (-1)) o) (hk : Kuhn (fitF fits) (nbOf fits) fits.length o) : Ev (fun k => impl_MatchLoads.f k fits) (matchF fits o) := by
  unfold impl_MatchLoads.f matchF
  refine Ev.bind (impl_GoodFits_ev fits h) (Ev.ite (fun hg => ?_) (fun hg => by rw [if_neg hg]; exact Ev.now _))
  rw [if_pos hg]
  obtain ⟨h8, hb8, hw⟩ := (fitOk_iff fits).mp hg
  exact Ev.bind (impl_matched_ev fits hg hK) (Ev.bind (impl_matching_ev o fits.length (nbOf fits) h8 hb8 hk.len hk.rng) (Ev.now _))
theorem spec_MatchLoads_ev (fits : List (List Bool)) (h : fits.length ≤ 1048576) {o : List Int} (hK : Ks (fitF fits) (nbOf fits) fits.length 0 (List.replicate (nbOf fits) (-1)) o) : Ev (fun k => spec_MatchLoads.f k fits) (matchF fits o) := by
  unfold spec_MatchLoads.f matchF
  refine Ev.bind (spec_GoodFits_ev fits h) (Ev.ite (fun hg => ?_) (fun hg => by rw [if_neg hg]; exact Ev.now _))
  rw [if_pos hg]
  exact Ev.bind (spec_l8Match_ev fits hg hK) (Ev.now _)

inductive RL (F : Nat → Nat → Bool) (nb n : Nat) (o : List Int) : Nat → Prop where
  | start {l : Nat} : l < n → (∀ x : Nat, x < nb → rd o (x : Int) ≠ (l : Int)) → RL F nb n o l
  | next {l y m : Nat} : RL F nb n o l → y < nb → F l y = true → rd o (y : Int) = (m : Int) → RL F nb n o m
def RB (F : Nat → Nat → Bool) (nb n : Nat) (o : List Int) (y : Nat) : Prop := y < nb ∧ ∃ l, RL F nb n o l ∧ F l y = true
theorem RL.lt {F : Nat → Nat → Bool} {nb n : Nat} {o : List Int} (hr : ∀ x : Nat, x < nb → -1 ≤ rd o (x : Int) ∧ rd o (x : Int) < n) {l : Nat} (h : RL F nb n o l) : l < n := by
  cases h with
  | start h _ => exact h
  | next _ hy _ hm => have := hr _ hy; omega
structure IsReach (F : Nat → Nat → Bool) (nb n : Nat) (o : List Int) (ls bs : List Bool) : Prop where
  ll : ls.length = n
  lb : bs.length = nb
  rl : ∀ l : Nat, l < n → (rdOf false ls (l : Int) = true ↔ RL F nb n o l)
  rb : ∀ y : Nat, y < nb → (rdOf false bs (y : Int) = true ↔ RB F nb n o y)
theorem bools_ext {a b : List Bool} (h : a.length = b.length) (he : ∀ i : Nat, i < a.length → (rdOf false a (i : Int) = true ↔ rdOf false b (i : Int) = true)) : a = b := by
  apply List.ext_getElem h
  intro i h1 h2
  have := he i h1
  rw [rdOf_nat _ _ i h1, rdOf_nat _ _ i h2] at this
  exact Bool.eq_iff_iff.mpr this
theorem IsReach.uniq {F : Nat → Nat → Bool} {nb n : Nat} {o : List Int} {ls bs ls' bs' : List Bool} (h : IsReach F nb n o ls bs) (h' : IsReach F nb n o ls' bs') : ls = ls' ∧ bs = bs' :=
  ⟨bools_ext (by rw [h.ll, h'.ll]) (fun i hi => by rw [h.ll] at hi; rw [h.rl i hi, h'.rl i hi]), bools_ext (by rw [h.lb, h'.lb]) (fun i hi => by rw [h.lb] at hi; rw [h.rb i hi, h'.rb i hi])⟩
structure Sound (F : Nat → Nat → Bool) (nb n : Nat) (o : List Int) (ls bs : List Bool) : Prop where
  ll : ls.length = n
  lb : bs.length = nb
  sl : ∀ l : Nat, l < n → rdOf false ls (l : Int) = true → RL F nb n o l
  sb : ∀ y : Nat, y < nb → rdOf false bs (y : Int) = true → RB F nb n o y
  st : ∀ l : Nat, l < n → (∀ x : Nat, x < nb → rd o (x : Int) ≠ (l : Int)) → rdOf false ls (l : Int) = true
theorem Sound.setl {F : Nat → Nat → Bool} {nb n : Nat} {o : List Int} {ls bs : List Bool} (h : Sound F nb n o ls bs) {l : Nat} (hl : l < n) (hr : RL F nb n o l) : Sound F nb n o (ls.set l true) bs := by
  refine ⟨by rw [List.length_set]; exact h.ll, h.lb, fun i hi h2 => ?_, h.sb, fun i hi h2 => ?_⟩
  · rw [rdOf_setn _ _ _ _ (by rw [h.ll]; exact hl)] at h2
    by_cases e : i = l
    · rw [e]; exact hr
    · rw [if_neg e] at h2; exact h.sl i hi h2
  · rw [rdOf_setn _ _ _ _ (by rw [h.ll]; exact hl)]; split
    · rfl
    · exact h.st i hi h2
theorem Sound.setb {F : Nat → Nat → Bool} {nb n : Nat} {o : List Int} {ls bs : List Bool} (h : Sound F nb n o ls bs) {y : Nat} (hy : y < nb) (hr : RB F nb n o y) : Sound F nb n o ls (bs.set y true) := by
  refine ⟨h.ll, by rw [List.length_set]; exact h.lb, h.sl, fun i hi h2 => ?_, h.st⟩
  rw [rdOf_setn _ _ _ _ (by rw [h.lb]; exact hy)] at h2
  by_cases e : i = y
  · rw [e]; exact hr
  · rw [if_neg e] at h2; exact h.sb i hi h2
theorem Sound.closed {F : Nat → Nat → Bool} {nb n : Nat} {o : List Int} {ls bs : List Bool} (hr : ∀ x : Nat, x < nb → -1 ≤ rd o (x : Int) ∧ rd o (x : Int) < n) (h : Sound F nb n o ls bs) (h1 : ∀ l : Nat, l < n → rdOf false ls (l : Int) = true → ∀ y : Nat, y < nb → F l y = true → rdOf false bs (y : Int) = true)
    (h2 : ∀ y : Nat, y < nb → rdOf false bs (y : Int) = true → ∀ m : Nat, rd o (y : Int) = (m : Int) → rdOf false ls (m : Int) = true) : IsReach F nb n o ls bs := by
  have all : ∀ l, RL F nb n o l → rdOf false ls (l : Int) = true := by
    intro l hl
    induction hl with
    | start hl hu => exact h.st _ hl hu
    | next hp hy hf hm ih => exact h2 _ hy (h1 _ (RL.lt hr hp) ih _ hy hf) _ hm
  exact ⟨h.ll, h.lb, fun l hl => ⟨h.sl l hl, all l⟩, fun y hy => ⟨h.sb y hy, fun ⟨_, l, hl, hf⟩ => h1 l (RL.lt hr hl) (all l hl) y hy hf⟩⟩
theorem cnt_set (bs : List Bool) {y nb : Nat} (hy : y < nb) (hl : bs.length = nb) (h0 : rdOf false bs (y : Int) = false) : cnt (fun i => !rdOf false bs (i : Int)) nb = cnt (fun i => !rdOf false (bs.set y true) (i : Int)) nb + 1 := by
  rw [cnt_out hy (by rw [h0]; rfl)]
  congr 1
  refine cnt_congr fun i hi => ?_
  rw [rdOf_setn _ _ _ _ (by omega)]; split <;> simp_all
theorem matchAt_iff {F : Nat → Nat → Bool} {nb n : Nat} {o : List Int} (hk : Kuhn F nb n o) {l b : Nat} (hl : l < n) (hb : b < nb) : rd (matchAt o n nb) (l : Int) = (b : Int) ↔ rd o (b : Int) = (l : Int) := by
  constructor
  · intro h
    by_cases hx : ∃ x : Nat, x < nb ∧ rd o (x : Int) = (l : Int)
    · obtain ⟨x, hx, he⟩ := hx
      have := matchAt_some hl nb hk.inj nb (Nat.le_refl _) hx he
      obtain rfl : x = b := by omega
      exact he
    · have := matchAt_none (o := o) hl nb fun x hx2 he => hx ⟨x, hx2, he⟩
      omega
  · intro h; exact matchAt_some hl nb hk.inj nb (Nat.le_refl _) hb h
theorem matchAt_neg {F : Nat → Nat → Bool} {nb n : Nat} {o : List Int} (hk : Kuhn F nb n o) {l : Nat} (hl : l < n) : rd (matchAt o n nb) (l : Int) < 0 ↔ ∀ x : Nat, x < nb → rd o (x : Int) ≠ (l : Int) := by
  constructor
  · intro h x hx he
    have := matchAt_some hl nb hk.inj nb (Nat.le_refl _) hx he
    omega
  · intro h
    have := matchAt_none (o := o) hl nb h
    omega

theorem impl_reached_ev (fits : List (List Bool)) (hg : fitOk fits = true) {o : List Int} (hK : Ks (fitF fits) (nbOf fits) fits.length 0 (List.replicate (nbOf fits) (-1)) o) (hk : Kuhn (fitF fits) (nbOf fits) fits.length o) :
    ∃ ls bs, Ev (fun k => impl_reached.f k fits) (ls, bs) ∧ IsReach (fitF fits) (nbOf fits) fits.length o ls bs := by
  obtain ⟨h8, hb8, hw⟩ := (fitOk_iff fits).mp hg
  generalize hnb : nbOf fits = nb at *
  generalize hn : fits.length = n at *
  -- the queue
  have main : ∀ (u : Nat) (ls bs : List Bool) (q : List Int), Sound (fitF fits) nb n o ls bs → 2 * cnt (fun i => !rdOf false bs (i : Int)) nb + q.length = u → q.length ≤ 1000 + 2 * nb →
      (∀ z ∈ q, ∃ l : Nat, z = (l : Int) ∧ l < n ∧ rdOf false ls (l : Int) = true) →
      (∀ l : Nat, l < n → rdOf false ls (l : Int) = true → (l : Int) ∈ q ∨ ∀ y : Nat, y < nb → fitF fits l y = true → rdOf false bs (y : Int) = true) →
      (∀ y : Nat, y < nb → rdOf false bs (y : Int) = true → ∀ m : Nat, rd o (y : Int) = (m : Int) → rdOf false ls (m : Int) = true) → 
      q.length + 2 * cnt (fun i => !rdOf false bs (i : Int)) nb ≤ 100 →
      ∃ ls' bs', Ev (fun k => impl_reached.l1 k fits o ls bs q) (ls', bs') ∧ IsReach (fitF fits) nb n o ls' bs' := by
    intro u
    induction u using Nat.strongRecOn with
    | _ u ih =>
      intro ls bs q hS hu _ hq hc1 hc2 hsm
      cases q with
      | nil =>
        refine ⟨ls, bs, ?_, hS.closed hk.rng (fun l hl h => ?_) hc2⟩
        · refine Ev.succ ?_; simp only [impl_reached.l1]; exact Ev.neg (by simp) (Ev.now _)
        · rcases hc1 l hl h with h | h
          · cases h
          · exact h
      | cons z0 q0 =>
        obtain ⟨h, rfl, hhn, hhl⟩ := hq z0 (by simp)
        -- the bins of the first of the queue
        have inner : ∀ (d b : Nat) (ls bs : List Bool) (q1 : List Int), b + d = nb → Sound (fitF fits) nb n o ls bs → 2 * cnt (fun i => !rdOf false bs (i : Int)) nb + (q1.length + 1) ≤ u →
            (∀ z ∈ q1, ∃ l : Nat, z = (l : Int) ∧ l < n ∧ rdOf false ls (l : Int) = true) →
            (∀ l : Nat, l < n → rdOf false ls (l : Int) = true → l = h ∨ (l : Int) ∈ q1 ∨ ∀ y : Nat, y < nb → fitF fits l y = true → rdOf false bs (y : Int) = true) →
            (∀ y : Nat, y < nb → rdOf false bs (y : Int) = true → ∀ m : Nat, rd o (y : Int) = (m : Int) → rdOf false ls (m : Int) = true) →
            rdOf false ls (h : Int) = true → (∀ y : Nat, y < b → fitF fits h y = true → rdOf false bs (y : Int) = true) → q1.length + 1 + 2 * cnt (fun i => !rdOf false bs (i : Int)) nb ≤ 100 →
            ∃ ls' bs', Ev (fun k => impl_reached.l2 k fits o ls bs ((h : Int) :: q1) (fits.getD h []) (nb : Int) (b : Int)) (ls', bs') ∧ IsReach (fitF fits) nb n o ls' bs' := by
          intro d
          induction d with
          | zero =>
            intro b ls bs q1 hb hS hu hq hc1 hc2 hh hy hsm
            obtain ⟨ls', bs', hE, hR⟩ := ih (2 * cnt (fun i => !rdOf false bs (i : Int)) nb + q1.length) (by omega) ls bs q1 hS rfl (by omega) hq (fun l hl h1 => by
              rcases hc1 l hl h1 with h2 | h2 | h2
              · subst h2; exact .inr fun y hy2 hf => hy y (by omega) hf
              · exact .inl h2
              · exact .inr h2) hc2 (by omega)
            refine ⟨ls', bs', ?_, hR⟩
            refine Ev.succ ?_
            simp only [impl_reached.l2]
            exact Ev.neg (by omega) (Ev.pos (by simp; omega) hE)
          | succ d ihd =>
            intro b ls bs q1 hb hS hu hq hc1 hc2 hh hy hsm
            have hb' : b < nb := by omega
            by_cases hf : fitF fits h b = true
            · by_cases hm : rdOf false bs (b : Int) = true
              · obtain ⟨ls', bs', hE, hR⟩ := ihd (b + 1) ls bs q1 (by omega) hS hu hq hc1 hc2 hh (fun y hy2 hf2 => by
                  rcases Nat.lt_or_ge y b with h3 | h3
                  · exact hy y h3 hf2
                  · obtain rfl : y = b := by omega
                    exact hm) hsm
                refine ⟨ls', bs', ?_, hR⟩
                refine Ev.succ ?_
                simp only [impl_reached.l2]
                rw [w64n hb' (by omega)]
                exact Ev.pos (by omega) (Ev.pos (by omega) (Ev.pos (by rw [hw h hhn]; omega) (Ev.pos hf (Ev.pos (by rw [hS.lb]; omega) (Ev.pos hm hE)))))
              · have hm0 : rdOf false bs (b : Int) = false := by simpa using hm
                have hrb : RB (fitF fits) nb n o b := ⟨hb', h, hS.sl h hhn hh, hf⟩
                have hS1 := hS.setb hb' hrb
                have hcs := cnt_set bs hb' hS.lb hm0
                have eb : ∀ y : Nat, rdOf false (bs.set b true) (y : Int) = if y = b then true else rdOf false bs (y : Int) := fun y => rdOf_setn _ _ _ _ (by rw [hS.lb]; exact hb')
                have hy1 : ∀ y : Nat, y < b + 1 → fitF fits h y = true → rdOf false (bs.set b true) (y : Int) = true := fun y hy2 hf2 => by
                  rw [eb]; split
                  · rfl
                  · exact hy y (by omega) hf2
                have up : ∀ {y : Nat}, rdOf false bs (y : Int) = true → rdOf false (bs.set b true) (y : Int) = true := fun {y} h3 => by rw [eb]; split <;> simp_all
                have hr := hk.rng b hb'
                by_cases hp : rd o (b : Int) ≥ 0
                · obtain ⟨m, hmo⟩ := exists_nat_of_nonneg hp
                  have hmn : m < n := by omega
                  by_cases hml : rdOf false ls (m : Int) = true
                  · obtain ⟨ls', bs', hE, hR⟩ := ihd (b + 1) ls (bs.set b true) q1 (by omega) hS1 (by omega) hq (fun l hl h1 => by
                      rcases hc1 l hl h1 with h2 | h2 | h2
                      · exact .inl h2
                      · exact .inr (.inl h2)
                      · exact .inr (.inr fun y hy2 hf2 => up (h2 y hy2 hf2))) (fun y hy2 hb2 m' hm' => by
                        rw [eb] at hb2
                        by_cases e : y = b
                        · subst e
                          obtain rfl : m' = m := by omega
                          exact hml
                        · rw [if_neg e] at hb2; exact hc2 y hy2 hb2 m' hm') hh hy1 (by omega)
                    refine ⟨ls', bs', ?_, hR⟩
                    refine Ev.succ ?_
                    simp only [impl_reached.l2]
                    rw [w64n hb' (by omega), toNat_nat]
                    refine Ev.pos (by omega) (Ev.pos (by omega) (Ev.pos (by rw [hw h hhn]; omega) (Ev.pos hf (Ev.pos (by rw [hS.lb]; omega) (Ev.neg hm (Ev.bind0 rfl (Ev.pos (by rw [hk.len]; omega) (Ev.pos hp (Ev.pos hp (Ev.pos (by rw [hS.ll]; omega) (Ev.pos ?_ hE)))))))))))
                    rw [hmo]; exact hml
                  · have hrl : RL (fitF fits) nb n o m := .next (hS.sl h hhn hh) hb' hf hmo
                    have hS2 := hS1.setl hmn hrl
                    have el : ∀ l : Nat, rdOf false (ls.set m true) (l : Int) = if l = m then true else rdOf false ls (l : Int) := fun l => rdOf_setn _ _ _ _ (by rw [hS.ll]; exact hmn)
                    have upl : ∀ {l : Nat}, rdOf false ls (l : Int) = true → rdOf false (ls.set m true) (l : Int) = true := fun {l} h3 => by rw [el]; split <;> simp_all
                    obtain ⟨ls', bs', hE, hR⟩ := ihd (b + 1) (ls.set m true) (bs.set b true) (q1 ++ [(m : Int)]) (by omega) hS2 (by simp; omega) (fun z hz => by
                      rcases List.mem_append.mp hz with hz | hz
                      · obtain ⟨l, e, h3, h4⟩ := hq z hz
                        exact ⟨l, e, h3, upl h4⟩
                      · exact ⟨m, by simpa using hz, hmn, by rw [el, if_pos rfl]⟩) (fun l hl h1 => by
                        rw [el] at h1
                        by_cases e : l = m
                        · subst e; exact .inr (.inl (by simp))
                        · rw [if_neg e] at h1
                          rcases hc1 l hl h1 with h2 | h2 | h2
                          · exact .inl h2
                          · exact .inr (.inl (List.mem_append.mpr (.inl h2)))
                          · exact .inr (.inr fun y hy2 hf2 => up (h2 y hy2 hf2))) (fun y hy2 hb2 m' hm' => by
                        rw [eb] at hb2
                        by_cases e : y = b
                        · subst e
                          obtain rfl : m' = m := by omega
                          rw [el, if_pos rfl]
                        · rw [if_neg e] at hb2; exact upl (hc2 y hy2 hb2 m' hm')) (upl hh) hy1 (by simp; omega)
                    refine ⟨ls', bs', ?_, hR⟩
                    refine Ev.succ ?_
                    simp only [impl_reached.l2]
                    rw [w64n hb' (by omega), toNat_nat]
                    refine Ev.pos (by omega) (Ev.pos (by omega) (Ev.pos (by rw [hw h hhn]; omega) (Ev.pos hf (Ev.pos (by rw [hS.lb]; omega) (Ev.neg hm (Ev.bind0 rfl (Ev.pos (by rw [hk.len]; omega) (Ev.pos hp (Ev.pos hp (Ev.pos (by rw [hS.ll]; omega) (Ev.neg (by rw [hmo]; exact hml) (Ev.pos (by simp; omega) ?_))))))))))))
                    rw [hmo, toNat_nat]; exact hE
                · obtain ⟨ls', bs', hE, hR⟩ := ihd (b + 1) ls (bs.set b true) q1 (by omega) hS1 (by omega) hq (fun l hl h1 => by
                    rcases hc1 l hl h1 with h2 | h2 | h2
                    · exact .inl h2
                    · exact .inr (.inl h2)
                    · exact .inr (.inr fun y hy2 hf2 => up (h2 y hy2 hf2))) (fun y hy2 hb2 m' hm' => by
                      rw [eb] at hb2
                      by_cases e : y = b
                      · subst e; omega
                      · rw [if_neg e] at hb2; exact hc2 y hy2 hb2 m' hm') hh hy1 (by omega)
                  refine ⟨ls', bs', ?_, hR⟩
                  refine Ev.succ ?_
                  simp only [impl_reached.l2]
                  rw [w64n hb' (by omega), toNat_nat]
                  exact Ev.pos (by omega) (Ev.pos (by omega) (Ev.pos (by rw [hw h hhn]; omega) (Ev.pos hf (Ev.pos (by rw [hS.lb]; omega) (Ev.neg hm (Ev.bind0 rfl (Ev.pos (by rw [hk.len]; omega) (Ev.neg hp hE))))))))
            · obtain ⟨ls', bs', hE, hR⟩ := ihd (b + 1) ls bs q1 (by omega) hS hu hq hc1 hc2 hh (fun y hy2 hf2 => by
                rcases Nat.lt_or_ge y b with h3 | h3
                · exact hy y h3 hf2
                · obtain rfl : y = b := by omega
                  exact absurd hf2 hf) hsm
              refine ⟨ls', bs', ?_, hR⟩
              refine Ev.succ ?_
              simp only [impl_reached.l2]
              rw [w64n hb' (by omega)]
              exact Ev.pos (by omega) (Ev.pos (by omega) (Ev.pos (by rw [hw h hhn]; omega) (Ev.neg hf hE)))
        obtain ⟨ls', bs', hE, hR⟩ := inner nb 0 ls bs q0 (by omega) hS (by simp at hu; omega) (fun z hz => hq z (by simp [hz])) (fun l hl h1 => by
          rcases hc1 l hl h1 with h2 | h2
          · rcases List.mem_cons.mp h2 with h3 | h3
            · exact .inl (by omega)
            · exact .inr (.inl h3)
          · exact .inr (.inr h2)) hc2 hhl (fun y hy => by omega) (by simp at hsm; omega)
        refine ⟨ls', bs', ?_, hR⟩
        refine Ev.succ ?_
        simp only [impl_reached.l1]
        have e0 : rd ((h : Int) :: q0) 0 = (h : Int) := by simp [rd]
        rw [e0, hn, fits_rd, hw h hhn]
        exact Ev.pos (by simp only [List.length_cons]; omega) (Ev.pos (by simp only [List.length_cons]; omega) (Ev.pos (by omega) (Ev.pos (by omega) hE)))
  -- those without a bin
  have first : ∀ (d i : Nat) (ls : List Bool) (q : List Int), i + d = n → ls.length = n → q.length ≤ i →
      (∀ l : Nat, l < n → (rdOf false ls (l : Int) = true ↔ l < i ∧ ∀ x : Nat, x < nb → rd o (x : Int) ≠ (l : Int))) → (∀ l : Nat, (l : Int) ∈ q ↔ l < n ∧ rdOf false ls (l : Int) = true) → (∀ z ∈ q, ∃ l : Nat, z = (l : Int)) →
      ∃ ls' bs', Ev (fun k => impl_reached.l0 k fits o ls (List.replicate nb false) q (matchAt o n nb) (n : Int) (i : Int)) (ls', bs') ∧ IsReach (fitF fits) nb n o ls' bs' := by
    intro d
    induction d with
    | zero =>
      intro i ls q hi hl hq hls hmem hz
      have hz0 : ∀ y : Nat, rdOf false (List.replicate nb false) (y : Int) = false := fun y => rdOf_rep nb y
      obtain ⟨ls', bs', hE, hR⟩ := main _ ls (List.replicate nb false) q ⟨hl, by simp, fun l hl2 h => .start hl2 ((hls l hl2).mp h).2, fun y _ h => (by rw [hz0] at h; cases h), fun l hl2 h => (hls l hl2).mpr ⟨by omega, h⟩⟩ rfl (by omega)
        (fun z hz2 => by
          obtain ⟨l, rfl⟩ := hz z hz2
          exact ⟨l, rfl, (hmem l).mp hz2⟩) (fun l hl2 h => .inl ((hmem l).mpr ⟨hl2, h⟩)) (fun y _ h => by rw [hz0] at h; cases h) (by have := cnt_le (fun i => !rdOf false (List.replicate nb false) (i : Int)) nb; omega)
      refine ⟨ls', bs', ?_, hR⟩
      refine Ev.succ ?_
      simp only [impl_reached.l0]
      exact Ev.neg (by omega) hE
    | succ d ih =>
      intro i ls q hi hl hq hls hmem hz
      have hi' : i < n := by omega
      have hneg := matchAt_neg hk hi'
      by_cases hu : rd (matchAt o n nb) (i : Int) < 0
      · have el : ∀ l : Nat, rdOf false (ls.set i true) (l : Int) = if l = i then true else rdOf false ls (l : Int) := fun l => rdOf_setn _ _ _ _ (by omega)
        obtain ⟨ls', bs', hE, hR⟩ := ih (i + 1) (ls.set i true) (q ++ [(i : Int)]) (by omega) (by simp; exact hl) (by simp; omega) (fun l hl2 => by
          rw [el]
          by_cases e : l = i
          · subst e; rw [if_pos rfl]; exact ⟨fun _ => ⟨by omega, hneg.mp hu⟩, fun _ => rfl⟩
          · rw [if_neg e, hls l hl2]
            constructor
            · rintro ⟨a, b⟩; exact ⟨by omega, b⟩
            · rintro ⟨a, b⟩; exact ⟨by omega, b⟩) (fun l => by
          rw [List.mem_append, hmem l, el]
          by_cases e : l = i
          · subst e; rw [if_pos rfl]; simp; exact hi'
          · rw [if_neg e]
            constructor
            · rintro (h | h)
              · exact h
              · rw [List.mem_singleton] at h; omega
            · exact .inl) (fun z hz2 => by
          rcases List.mem_append.mp hz2 with h | h
          · exact hz z h
          · exact ⟨i, by simpa using h⟩)
        refine ⟨ls', bs', ?_, hR⟩
        refine Ev.succ ?_
        simp only [impl_reached.l0]
        rw [w64n hi' (by omega), toNat_nat]
        exact Ev.pos (by omega) (Ev.pos (by omega) (Ev.pos (by rw [matchAt_len]; omega) (Ev.pos hu (Ev.pos (by omega) (Ev.pos (by omega) hE)))))
      · obtain ⟨ls', bs', hE, hR⟩ := ih (i + 1) ls q (by omega) hl (by omega) (fun l hl2 => by
          rw [hls l hl2]
          constructor
          · rintro ⟨a, b⟩; exact ⟨by omega, b⟩
          · rintro ⟨a, b⟩
            refine ⟨?_, b⟩
            rcases Nat.lt_or_ge l i with h | h
            · exact h
            · obtain rfl : l = i := by omega
              exact absurd (hneg.mpr b) hu) hmem hz
        refine ⟨ls', bs', ?_, hR⟩
        refine Ev.succ ?_
        simp only [impl_reached.l0]
        rw [w64n hi' (by omega)]
        exact Ev.pos (by omega) (Ev.pos (by omega) (Ev.pos (by rw [matchAt_len]; omega) (Ev.neg hu hE)))
  obtain ⟨ls', bs', hE, hR⟩ := first n 0 (List.replicate n false) [] (by omega) (by simp) (by simp) (fun l hl => by rw [rdOf_rep]; simp) (fun l => by rw [rdOf_rep]; simp) (fun z hz => by cases hz)
  refine ⟨ls', bs', ?_, hR⟩
  subst hnb hn
  unfold impl_reached.f
  rw [toNat_nat]
  refine Ev.bind (impl_matched_ev fits hg hK) (Ev.pos (by omega) (Ev.pos (by omega) (Ev.pos (by omega) (Ev.pos (by rw [toNat_nat, hk.len]; omega) (Ev.bind (impl_matching_ev o _ _ h8 hb8 hk.len hk.rng) ?_)))))
  rw [toNat_nat, hk.len, matchAt_len]
  exact hE

theorem spec_l8Come_ev (fits : List (List Bool)) (hg : fitOk fits = true) {o : List Int} (hK : Ks (fitF fits) (nbOf fits) fits.length 0 (List.replicate (nbOf fits) (-1)) o) (hk : Kuhn (fitF fits) (nbOf fits) fits.length o) :
    ∃ ls bs, Ev (fun k => spec_l8Come.f k fits) (ls, bs) ∧ IsReach (fitF fits) (nbOf fits) fits.length o ls bs := by
  obtain ⟨h8, hb8, hw⟩ := (fitOk_iff fits).mp hg
  generalize hnb : nbOf fits = nb at *
  generalize hn : fits.length = n at *
  have main : ∀ (u : Nat) (ls bs : List Bool), Sound (fitF fits) nb n o ls bs → cnt (fun i => !rdOf false ls (i : Int)) n + cnt (fun i => !rdOf false bs (i : Int)) nb = u →
      ∃ ls' bs', Ev (fun k => spec_l8Come.l1 k fits (matchAt o n nb) ls bs true) (ls', bs') ∧ IsReach (fitF fits) nb n o ls' bs' := by
    intro u
    induction u using Nat.strongRecOn with
    | _ u ih =>
      have pass : ∀ (d i : Nat) (ls bs : List Bool) (fl : Bool), i + d = n → Sound (fitF fits) nb n o ls bs → cnt (fun i => !rdOf false ls (i : Int)) n + cnt (fun i => !rdOf false bs (i : Int)) nb ≤ u →
          (fl = true → cnt (fun i => !rdOf false ls (i : Int)) n + cnt (fun i => !rdOf false bs (i : Int)) nb < u) →
          (fl = false → ∀ a b : Nat, a < i → b < nb → (rdOf false ls (a : Int) = true → fitF fits a b = true → rdOf false bs (b : Int) = true) ∧ (rdOf false bs (b : Int) = true → rd o (b : Int) = (a : Int) → rdOf false ls (a : Int) = true)) →
          ∃ ls' bs', Ev (fun k => spec_l8Come.l2 k fits (matchAt o n nb) ls bs fl (n : Int) (i : Int)) (ls', bs') ∧ IsReach (fitF fits) nb n o ls' bs' := by
        intro d
        induction d with
        | zero =>
          intro i ls bs fl hi hS hu ht hf
          cases fl with
          | true =>
            obtain ⟨ls', bs', hE, hR⟩ := ih _ (ht rfl) ls bs hS rfl
            refine ⟨ls', bs', ?_, hR⟩
            refine Ev.succ ?_; simp only [spec_l8Come.l2]; exact Ev.neg (by omega) hE
          | false =>
            refine ⟨ls, bs, ?_, hS.closed hk.rng (fun l hl h y hy h2 => (hf rfl l y (by omega) hy).1 h h2) (fun y hy h m hm => ?_)⟩
            · refine Ev.succ ?_; simp only [spec_l8Come.l2]; refine Ev.neg (by omega) (Ev.succ ?_); simp only [spec_l8Come.l1]; exact Ev.neg (by simp) (Ev.now _)
            · have := hk.rng y hy
              exact (hf rfl m y (by omega) hy).2 h hm
        | succ d ihd =>
          intro i ls bs fl hi hS hu ht hf
          have hi' : i < n := by omega
          have inner : ∀ (e b : Nat) (ls bs : List Bool) (fl : Bool), b + e = nb → Sound (fitF fits) nb n o ls bs → cnt (fun i => !rdOf false ls (i : Int)) n + cnt (fun i => !rdOf false bs (i : Int)) nb ≤ u →
              (fl = true → cnt (fun i => !rdOf false ls (i : Int)) n + cnt (fun i => !rdOf false bs (i : Int)) nb < u) →
              (fl = false → ∀ a c : Nat, c < nb → (a < i ∨ a = i ∧ c < b) → (rdOf false ls (a : Int) = true → fitF fits a c = true → rdOf false bs (c : Int) = true) ∧ (rdOf false bs (c : Int) = true → rd o (c : Int) = (a : Int) → rdOf false ls (a : Int) = true)) →
              ∃ ls' bs', Ev (fun k => spec_l8Come.l3 k fits (matchAt o n nb) ls bs fl (i : Int) (n : Int) (i : Int) (nb : Int) (b : Int)) (ls', bs') ∧ IsReach (fitF fits) nb n o ls' bs' := by
            intro e
            induction e with
            | zero =>
              intro b ls bs fl hb hS hu ht hf
              obtain ⟨ls', bs', hE, hR⟩ := ihd (i + 1) ls bs fl (by omega) hS hu ht (fun h a c ha hc => hf h a c hc (by omega))
              refine ⟨ls', bs', ?_, hR⟩
              refine Ev.succ ?_
              simp only [spec_l8Come.l3]
              rw [w64n hi' (by omega)]
              exact Ev.neg (by omega) hE
            | succ e ihe =>
              intro b ls bs fl hb hS hu ht hf
              have hb' : b < nb := by omega
              -- what the round asks first
              have go : ∀ {r : List Bool × List Bool}, Ev (fun k => spec_l8Come.j4 k fits (matchAt o n nb) ls bs fl (i : Int) (b : Int) (n : Int) (i : Int) (nb : Int) (b : Int) (rdOf false ls (i : Int) && (fitF fits i b && !rdOf false bs (b : Int)))) r →
                  Ev (fun k => spec_l8Come.l3 k fits (matchAt o n nb) ls bs fl (i : Int) (n : Int) (i : Int) (nb : Int) (b : Int)) r := fun {r} h => by
                refine Ev.succ ?_
                simp only [spec_l8Come.l3]
                rw [fits_rd]
                refine Ev.pos (by omega) (Ev.pos (by omega) (Ev.pos (by rw [hS.ll]; omega) (Ev.ite (fun h1 => Ev.pos (by omega) (Ev.pos (by omega) (Ev.pos (by rw [hw i hi']; omega) (Ev.ite (fun h2 => Ev.pos (by rw [hS.lb]; omega) ?_) (fun h2 => ?_))))) (fun h1 => ?_))))
                · rw [h1, show fitF fits i b = true from h2, Bool.true_and, Bool.true_and] at h; exact h
                · rw [h1, show fitF fits i b = false from by simpa [fitF] using h2, Bool.false_and, Bool.and_false] at h; exact h
                · rw [show rdOf false ls (i : Int) = false from by simpa using h1, Bool.false_and] at h; exact h
              have hmi := matchAt_iff hk hi' hb'
              have eb : ∀ y : Nat, rdOf false (bs.set b true) (y : Int) = if y = b then true else rdOf false bs (y : Int) := fun y => rdOf_setn _ _ _ _ (by rw [hS.lb]; exact hb')
              have el : ∀ l : Nat, rdOf false (ls.set i true) (l : Int) = if l = i then true else rdOf false ls (l : Int) := fun l => rdOf_setn _ _ _ _ (by rw [hS.ll]; exact hi')
              by_cases hA : rdOf false ls (i : Int) = true ∧ fitF fits i b = true ∧ rdOf false bs (b : Int) = false
              · obtain ⟨a1, a2, a3⟩ := hA
                have hcs := cnt_set bs hb' hS.lb a3
                obtain ⟨ls', bs', hE, hR⟩ := ihe (b + 1) ls (bs.set b true) true (by omega) (hS.setb hb' ⟨hb', i, hS.sl i hi' a1, a2⟩) (by omega) (fun _ => by omega) (fun h => by cases h)
                refine ⟨ls', bs', go ?_, hR⟩
                rw [a1, a2, a3]
                refine Ev.succ ?_
                simp only [spec_l8Come.j4]
                rw [w64n hb' (by omega), toNat_nat]
                refine Ev.pos rfl (Ev.pos (by omega) (Ev.pos (by rw [hS.lb]; omega) (Ev.bind0 rfl (Ev.pos (by rw [eb, if_pos rfl]) (Ev.pos (by omega) (Ev.pos (by rw [matchAt_len]; omega) (Ev.ite (fun _ => Ev.pos (by rw [hS.ll]; omega) (Ev.pos a1 hE)) (fun _ => hE))))))))
              · have hx : (rdOf false ls (i : Int) && (fitF fits i b && !rdOf false bs (b : Int))) = false := by
                  cases h1 : rdOf false ls (i : Int) <;> cases h2 : fitF fits i b <;> cases h3 : rdOf false bs (b : Int) <;> simp_all
                rw [hx] at go
                by_cases hB : rdOf false bs (b : Int) = true ∧ rd o (b : Int) = (i : Int) ∧ rdOf false ls (i : Int) = false
                · obtain ⟨b1, b2, b3⟩ := hB
                  have hcs := cnt_set ls hi' hS.ll b3
                  obtain ⟨_, l, hl, hf2⟩ := hS.sb b hb' b1
                  obtain ⟨ls', bs', hE, hR⟩ := ihe (b + 1) (ls.set i true) bs true (by omega) (hS.setl hi' (.next hl hb' hf2 b2)) (by omega) (fun _ => by omega) (fun h => by cases h)
                  refine ⟨ls', bs', go ?_, hR⟩
                  refine Ev.succ ?_
                  simp only [spec_l8Come.j4]
                  rw [w64n hb' (by omega), toNat_nat]
                  exact Ev.neg (by simp) (Ev.pos (by omega) (Ev.pos (by rw [hS.lb]; omega) (Ev.pos b1 (Ev.pos (by omega) (Ev.pos (by rw [matchAt_len]; omega) (Ev.pos (hmi.mpr b2) (Ev.pos (by rw [hS.ll]; omega) (Ev.neg (by rw [b3]; simp) hE))))))))
                · obtain ⟨ls', bs', hE, hR⟩ := ihe (b + 1) ls bs fl (by omega) hS hu ht (fun h a c hc hac => by
                    by_cases e2 : a = i ∧ c = b
                    · obtain ⟨rfl, rfl⟩ := e2
                      refine ⟨fun h1 h2 => ?_, fun h1 h2 => ?_⟩
                      · cases h3 : rdOf false bs (c : Int) with
                        | true => rfl
                        | false => exact absurd ⟨h1, h2, h3⟩ hA
                      · cases h3 : rdOf false ls (a : Int) with
                        | true => rfl
                        | false => exact absurd ⟨h1, h2, h3⟩ hB
                    · exact hf h a c hc (by omega))
                  refine ⟨ls', bs', go ?_, hR⟩
                  refine Ev.succ ?_
                  simp only [spec_l8Come.j4]
                  rw [w64n hb' (by omega)]
                  refine Ev.neg (by simp) (Ev.pos (by omega) (Ev.pos (by rw [hS.lb]; omega) (Ev.ite (fun h1 => Ev.pos (by omega) (Ev.pos (by rw [matchAt_len]; omega) (Ev.ite (fun h2 => Ev.pos (by rw [hS.ll]; omega) (Ev.pos ?_ hE)) (fun _ => hE)))) (fun _ => hE))))
                  cases h3 : rdOf false ls (i : Int) with
                  | true => rfl
                  | false => exact absurd ⟨h1, hmi.mp h2, h3⟩ hB
          obtain ⟨ls', bs', hE, hR⟩ := inner nb 0 ls bs fl (by omega) hS hu ht (fun h a c hc hac => hf h a c (by omega) hc)
          refine ⟨ls', bs', ?_, hR⟩
          refine Ev.succ ?_
          simp only [spec_l8Come.l2]
          rw [hS.lb]
          exact Ev.pos (by omega) hE
      intro ls bs hS hu
      obtain ⟨ls', bs', hE, hR⟩ := pass n 0 ls bs false (by omega) hS (by omega) (fun h => by cases h) (fun _ a b ha => by omega)
      refine ⟨ls', bs', ?_, hR⟩
      refine Ev.succ ?_
      simp only [spec_l8Come.l1]
      rw [hn]
      exact Ev.pos trivial hE
  have first : ∀ (d i : Nat) (ls : List Bool), i + d = n → ls.length = n → (∀ l : Nat, l < n → (rdOf false ls (l : Int) = true ↔ l < i ∧ ∀ x : Nat, x < nb → rd o (x : Int) ≠ (l : Int))) →
      ∃ ls' bs', Ev (fun k => spec_l8Come.l0 k fits (matchAt o n nb) ls (List.replicate nb false) (matchAt o n nb) (n : Int) (i : Int)) (ls', bs') ∧ IsReach (fitF fits) nb n o ls' bs' := by
    intro d
    induction d with
    | zero =>
      intro i ls hi hl hls
      have hz0 : ∀ y : Nat, rdOf false (List.replicate nb false) (y : Int) = false := fun y => rdOf_rep nb y
      obtain ⟨ls', bs', hE, hR⟩ := main _ ls (List.replicate nb false) ⟨hl, by simp, fun l hl2 h => .start hl2 ((hls l hl2).mp h).2, fun y _ h => (by rw [hz0] at h; cases h), fun l hl2 h => (hls l hl2).mpr ⟨by omega, h⟩⟩ rfl
      refine ⟨ls', bs', ?_, hR⟩
      refine Ev.succ ?_
      simp only [spec_l8Come.l0]
      exact Ev.neg (by omega) hE
    | succ d ih =>
      intro i ls hi hl hls
      have hi' : i < n := by omega
      have hneg := matchAt_neg hk hi'
      have el : ∀ l : Nat, rdOf false (ls.set i (decide (rd (matchAt o n nb) (i : Int) < 0))) (l : Int) = if l = i then decide (rd (matchAt o n nb) (i : Int) < 0) else rdOf false ls (l : Int) := fun l => rdOf_setn _ _ _ _ (by omega)
      obtain ⟨ls', bs', hE, hR⟩ := ih (i + 1) (ls.set i (decide (rd (matchAt o n nb) (i : Int) < 0))) (by omega) (by simp; exact hl) (fun l hl2 => by
        rw [el]
        by_cases e : l = i
        · subst e; rw [if_pos rfl, decide_eq_true_eq, hneg]; exact ⟨fun h => ⟨by omega, h⟩, fun h => h.2⟩
        · rw [if_neg e, hls l hl2]
          constructor
          · rintro ⟨a, b⟩; exact ⟨by omega, b⟩
          · rintro ⟨a, b⟩; exact ⟨by omega, b⟩)
      refine ⟨ls', bs', ?_, hR⟩
      refine Ev.succ ?_
      simp only [spec_l8Come.l0]
      rw [w64n hi' (by omega), toNat_nat]
      exact Ev.pos (by omega) (Ev.pos (by omega) (Ev.pos (by rw [matchAt_len]; omega) (Ev.pos (by omega) hE)))
  obtain ⟨ls', bs', hE, hR⟩ := first n 0 (List.replicate n false) (by omega) (by simp) (fun l hl => by rw [rdOf_rep]; simp)
  refine ⟨ls', bs', ?_, hR⟩
  subst hnb hn
  unfold spec_l8Come.f
  rw [toNat_nat]
  refine Ev.bind (spec_l8Match_ev fits hg hK) (Ev.pos (by omega) (Ev.pos (by omega) (Ev.bind0 (spec_l8Bins_eq fits) (Ev.pos (by omega) (Ev.pos (by rw [toNat_nat]; omega) ?_)))))
  rw [toNat_nat, matchAt_len]
  exact hE

def numsOf (l : List Bool) (so : Bool) : Nat → List Int
  | 0 => []
  | i + 1 => if rdOf false l (i : Int) = so then numsOf l so i ++ [(i : Int)] else numsOf l so i
theorem numsOf_len (l : List Bool) (so : Bool) (n : Nat) : (numsOf l so n).length = cnt (fun i => rdOf false l (i : Int) == so) n := by
  induction n with
  | zero => rfl
  | succ n ih =>
    simp only [numsOf, cnt]
    by_cases h : rdOf false l (n : Int) = so
    · rw [if_pos h, List.length_append, ih, h]; simp
    · rw [if_neg h, ih]; simp [h]
theorem numsOf_mem (l : List Bool) (so : Bool) (n : Nat) (z : Int) : z ∈ numsOf l so n ↔ ∃ i : Nat, z = (i : Int) ∧ i < n ∧ rdOf false l (i : Int) = so := by
  induction n with
  | zero => simp [numsOf]
  | succ n ih =>
    simp only [numsOf]
    by_cases h : rdOf false l (n : Int) = so
    · rw [if_pos h, List.mem_append, ih, List.mem_singleton]
      constructor
      · rintro (⟨i, e, h1, h2⟩ | e)
        · exact ⟨i, e, by omega, h2⟩
        · exact ⟨n, e, by omega, h⟩
      · rintro ⟨i, e, h1, h2⟩
        rcases Nat.lt_or_ge i n with h3 | h3
        · exact .inl ⟨i, e, h3, h2⟩
        · exact .inr (by omega)
    · rw [if_neg h, ih]
      constructor
      · rintro ⟨i, e, h1, h2⟩; exact ⟨i, e, by omega, h2⟩
      · rintro ⟨i, e, h1, h2⟩
        rcases Nat.lt_or_ge i n with h3 | h3
        · exact ⟨i, e, h3, h2⟩
        · obtain rfl : i = n := by omega
          exact absurd h2 h
theorem numsOf_le (l : List Bool) (so : Bool) (n : Nat) : (numsOf l so n).length ≤ n := by rw [numsOf_len]; exact cnt_le _ _

theorem impl_numbered_ev (l : List Bool) (so : Bool) (h : l.length ≤ 1048576) : Ev (fun k => impl_numbered.f k l so) (numsOf l so l.length) := by
  unfold impl_numbered.f
  refine ev_up l.length (fun k i => impl_numbered.l0 k so (numsOf l so i) l (l.length : Int) (i : Int)) _ (fun _ => True) trivial ?_ ?_
  · intro _; refine Ev.succ ?_; simp only [impl_numbered.l0]; exact Ev.neg (by omega) (Ev.now _)
  · intro i hi _ hn
    have hn := hn trivial
    have := numsOf_le l so i
    refine Ev.succ ?_
    simp only [impl_numbered.l0]
    rw [w64n hi (by omega)]
    simp only [numsOf] at hn
    refine Ev.pos (by omega) (Ev.pos (by omega) (Ev.pos (by omega) (Ev.ite (fun h1 => Ev.pos (by omega) ?_) (fun h1 => ?_))))
    · rw [if_pos (by simpa using h1)] at hn; exact hn
    · rw [if_neg (by simpa using h1)] at hn; exact hn

theorem spec_l8Those_ev (l : List Bool) (so : Bool) (h : l.length ≤ 1048576) : Ev (fun k => spec_l8Those.f k l so) (numsOf l so l.length) := by
  unfold spec_l8Those.f
  refine ev_up l.length (fun k i => spec_l8Those.l0 k so (numsOf l so i) l (l.length : Int) (i : Int)) _ (fun _ => True) trivial ?_ ?_
  · intro _; refine Ev.succ ?_; simp only [spec_l8Those.l0]; exact Ev.neg (by omega) (Ev.now _)
  · intro i hi _ hn
    have hn := hn trivial
    have := numsOf_le l so i
    refine Ev.succ ?_
    simp only [spec_l8Those.l0]
    rw [w64n hi (by omega)]
    simp only [numsOf] at hn
    refine Ev.pos (by omega) (Ev.pos (by omega) (Ev.pos (by omega) (Ev.ite (fun h1 => Ev.pos (by omega) ?_) (fun h1 => ?_))))
    · rw [if_pos (by simpa using h1)] at hn; exact hn
    · rw [if_neg (by simpa using h1)] at hn; exact hn

theorem reach_both (fits : List (List Bool)) (hg : fitOk fits = true) {o : List Int} (hK : Ks (fitF fits) (nbOf fits) fits.length 0 (List.replicate (nbOf fits) (-1)) o) (hk : Kuhn (fitF fits) (nbOf fits) fits.length o) :
    ∃ ls bs, Ev (fun k => impl_reached.f k fits) (ls, bs) ∧ Ev (fun k => spec_l8Come.f k fits) (ls, bs) ∧ IsReach (fitF fits) (nbOf fits) fits.length o ls bs := by
  obtain ⟨ls, bs, h1, h2⟩ := impl_reached_ev fits hg hK hk
  obtain ⟨ls', bs', h3, h4⟩ := spec_l8Come_ev fits hg hK hk
  obtain ⟨rfl, rfl⟩ := h2.uniq h4
  exact ⟨ls, bs, h1, h3, h2⟩

theorem LackOf_ev (fits : List (List Bool)) (h : fits.length ≤ 1048576) : ∃ a ok, Ev (fun k => impl_LackOf.f k fits) (a, ok) ∧ Ev (fun k => spec_LackOf.f k fits) (a, ok) ∧ a.length ≤ 8 ∧ ok = fitOk fits ∧
    (fitOk fits = true → ∀ o, Ks (fitF fits) (nbOf fits) fits.length 0 (List.replicate (nbOf fits) (-1)) o → Kuhn (fitF fits) (nbOf fits) fits.length o → ∃ ls bs, IsReach (fitF fits) (nbOf fits) fits.length o ls bs ∧ a = numsOf ls true fits.length) := by
  unfold impl_LackOf.f spec_LackOf.f
  have g1 := impl_GoodFits_ev fits h
  have g2 := spec_GoodFits_ev fits h
  by_cases hg : fitOk fits = true
  · obtain ⟨h8, hb8, hw⟩ := (fitOk_iff fits).mp hg
    obtain ⟨o, hK, hk⟩ := kuhn (fitF fits) (nbOf fits) fits.length
    obtain ⟨ls, bs, h1, h2, h3⟩ := reach_both fits hg hK hk
    have l1 := numsOf_le ls true ls.length
    have e1 := h3.ll
    refine ⟨numsOf ls true ls.length, true, Ev.bind g1 (Ev.pos hg (Ev.bind h1 (Ev.bind (impl_numbered_ev _ _ (by dsimp only; omega)) (Ev.now _)))), Ev.bind g2 (Ev.pos hg (Ev.bind h2 (Ev.bind (spec_l8Those_ev _ _ (by dsimp only; omega)) (Ev.now _)))), by omega, hg.symm, fun _ o' hK' hk' => ?_⟩
    obtain ⟨ls', bs', h1', _, h3'⟩ := reach_both fits hg hK' hk'
    have := Ev.uniq h1 h1'
    simp only [Prod.mk.injEq] at this
    obtain ⟨rfl, rfl⟩ := this
    exact ⟨ls, bs, h3', by rw [e1]⟩
  · refine ⟨[], false, Ev.bind g1 (Ev.neg hg (Ev.now _)), Ev.bind g2 (Ev.neg hg (Ev.now _)), by simp, (Bool.eq_false_iff.mpr hg).symm, fun h => absurd h hg⟩

def flowOk (flow : List Int) : Bool := decide (1 ≤ (flow.length : Int)) && decide ((flow.length : Int) ≤ 8) && allIn flow 1 30
def countsOk (flow counts : List Int) : Bool := flowOk flow && (decide ((counts.length : Int) = (flow.length : Int)) && (allIn counts 1 40 && decide (counts.sum ≤ 40)))
def gn (f c : Int) : Int := lowNum f (c * (c + 1))
def gd (f c : Int) : Int := lowDen f (c * (c + 1))
def bestUp (lt : Nat → Nat → Bool) : Nat → Nat
  | 0 => 0
  | i + 1 => if lt (bestUp lt i) i = true then i else bestUp lt i
def gainLt (flow counts : List Int) (b i : Nat) : Bool := decide (gn flow[b]! counts[b]! * gd flow[i]! counts[i]! < gn flow[i]! counts[i]! * gd flow[b]! counts[b]!)
def nextOf (flow counts : List Int) : Nat := bestUp (gainLt flow counts) flow.length

def fits (p : Int × Int) : Int × Int × Bool := if goodFrac p.1 p.2 = true then (p.1, p.2, true) else (0, 0, false)
def bothGood (a b c d : Int) : Bool := goodFrac a b && goodFrac c d
def addF (a b c d : Int) : Int × Int × Bool := if bothGood a b c d = true then fits (lowNum (a * d + c * b) (b * d), lowDen (a * d + c * b) (b * d)) else (0, 0, false)
def subF (a b c d : Int) : Int × Int × Bool := if bothGood a b c d = true then fits (lowNum (a * d - c * b) (b * d), lowDen (a * d - c * b) (b * d)) else (0, 0, false)
def mulF (a b c d : Int) : Int × Int × Bool := if bothGood a b c d = true then fits (lowNum (a * c) (b * d), lowDen (a * c) (b * d)) else (0, 0, false)
def divF (a b c d : Int) : Int × Int × Bool := if bothGood a b c d = true ∧ c ≠ 0 then fits (lowNum (a * d) (b * c), lowDen (a * d) (b * c)) else (0, 0, false)
def lessF (a b c d : Int) : Bool × Bool := if bothGood a b c d = true then (decide (a * d < c * b), true) else (false, false)
def floorF (a b : Int) : Int × Bool := if goodFrac a b = true then (a / b, true) else (0, false)

def sumF : List (Int × Int) → Int × Int → Int × Int × Bool
  | [], s => (s.1, s.2, true)
  | x :: l, s => if (addF s.1 s.2 x.1 x.2).2.2 = true then sumF l ((addF s.1 s.2 x.1 x.2).1, (addF s.1 s.2 x.1 x.2).2.1) else (0, 0, false)

def sumsF (l : List (Int × Int)) : Int × Int × Bool := if l.length ≤ 50 then sumF l (0, 1) else (0, 0, false)

def bump (flow counts : List Int) : List Int := counts.set (nextOf flow counts) (counts[nextOf flow counts]! + 1)
def shareUp (flow : List Int) : Nat → List Int
  | 0 => List.replicate flow.length 1
  | i + 1 => bump flow (shareUp flow i)
def shareOf (flow : List Int) (places : Int) : List Int := shareUp flow (places - flow.length).toNat
def kindsOk (flow : List Int) (places : Int) : Bool := flowOk flow && (decide ((flow.length : Int) ≤ places) && decide (places ≤ 40))

def upFrom (k : Int) (n : Nat) : List Int := (List.range n).map fun (j : Nat) => k + (j : Int)

def jn (E : List (Nat × Nat)) (T : Nat → Bool) : Nat → Nat → Prop
  | 0, u => T u = true
  | n + 1, u => T u = true ∨ ∃ v, ((u, v) ∈ E ∨ (v, u) ∈ E) ∧ jn E T n v
def Jn (E : List (Nat × Nat)) (T : Nat → Bool) (u : Nat) : Prop := ∃ n, jn E T n u
theorem Jn.base {E : List (Nat × Nat)} {T : Nat → Bool} {u : Nat} (h : T u = true) : Jn E T u := ⟨0, h⟩
theorem Jn.step {E : List (Nat × Nat)} {T : Nat → Bool} {u v : Nat} (h : (u, v) ∈ E ∨ (v, u) ∈ E) (k : Jn E T v) : Jn E T u := by
  obtain ⟨n, hn⟩ := k; exact ⟨n + 1, .inr ⟨v, h, hn⟩⟩
theorem Jn.rule {E : List (Nat × Nat)} {T : Nat → Bool} {P : Nat → Prop} (hb : ∀ u, T u = true → P u)
    (hs : ∀ u v, ((u, v) ∈ E ∨ (v, u) ∈ E) → Jn E T v → P v → P u) {u : Nat} (h : Jn E T u) : P u := by
  obtain ⟨n, hn⟩ := h
  induction n generalizing u with
  | zero => exact hb u hn
  | succ n ih =>
    rcases hn with h | ⟨v, h, hv⟩
    · exact hb u h
    · exact hs u v h ⟨n, hv⟩ (ih hv)
theorem Jn.trans {E E' : List (Nat × Nat)} {T T' : Nat → Bool} {u : Nat} (h : Jn E T u) (k : ∀ x, T x = true → Jn E' T' x) (hE : ∀ e ∈ E, e ∈ E') : Jn E' T' u :=
  h.rule k fun _ _ he _ p => Jn.step (he.imp (hE _) (hE _)) p
theorem Jn.cross {E : List (Nat × Nat)} {J : Nat → Bool} {v : Nat} (h : Jn E J v) : J v = false →
    ∃ e ∈ E, ∃ x s, (e = (x, s) ∨ e = (s, x)) ∧ J x = false ∧ J s = true ∧ Jn (E.erase e) (fun u => decide (u = v)) x := by
  refine h.rule (P := fun v => J v = false → ∃ e ∈ E, ∃ x s, (e = (x, s) ∨ e = (s, x)) ∧ J x = false ∧ J s = true ∧ Jn (E.erase e) (fun u => decide (u = v)) x) (fun u hu hv => absurd hu (by simp [hv])) ?_
  intro u w hf hw ih hu
  cases hJ : J w with
  | true =>
    have hx : Jn (E.erase ((u, w) : Nat × Nat)) (fun y => decide (y = u)) u := Jn.base (by simp)
    have hx' : Jn (E.erase ((w, u) : Nat × Nat)) (fun y => decide (y = u)) u := Jn.base (by simp)
    rcases hf with hf | hf
    · exact ⟨_, hf, u, w, .inl rfl, hu, hJ, hx⟩
    · exact ⟨_, hf, u, w, .inr rfl, hu, hJ, hx'⟩
  | false =>
    obtain ⟨e, he, x, s, hxs, hx, hs, hj⟩ := ih hJ
    refine ⟨e, he, x, s, hxs, hx, hs, hj.trans (fun y hy => ?_) (fun _ h => h)⟩
    have hyw : y = w := by simpa using hy
    subst hyw
    have hne : ∀ f : Nat × Nat, f = (u, y) ∨ f = (y, u) → f ≠ e := by
      rintro f hf1 rfl
      rcases hf1 with h1 | h1 <;> rcases hxs with h2 | h2 <;> rw [h1] at h2 <;> injection h2 with h3 h4 <;> subst h3 <;> subst h4 <;> simp_all
    refine Jn.step (v := u) ?_ (Jn.base (by simp))
    rcases hf with hf | hf
    · exact .inr ((List.mem_erase_of_ne (hne _ (.inl rfl))).mpr hf)
    · exact .inl ((List.mem_erase_of_ne (hne _ (.inr rfl))).mpr hf)
theorem Jn.move {E : List (Nat × Nat)} {J : Nat → Bool} {v x s : Nat} {e : Nat × Nat} (hxs : e = (x, s) ∨ e = (s, x)) (hs : J s = true)
    (hj : Jn (E.erase e) (fun u => decide (u = v)) x) {u : Nat} (h : Jn E J u) : Jn (E.erase e) (fun y => J y || decide (y = v)) u := by
  have hx : Jn (E.erase e) (fun y => J y || decide (y = v)) x := hj.trans (fun y hy => Jn.base (by simp at hy; simp [hy])) (fun _ h => h)
  have hss : Jn (E.erase e) (fun y => J y || decide (y = v)) s := Jn.base (by simp [hs])
  refine h.rule (P := fun u => Jn (E.erase e) (fun y => J y || decide (y = v)) u) (fun u hu => Jn.base (by simp [hu])) ?_
  intro u w hf _ ih
  by_cases h1 : (u, w) = e
  · rcases hxs with h2 | h2 <;> rw [h2] at h1 <;> injection h1 with h3 h4
    · rw [h3]; exact hx
    · rw [h3]; exact hss
  · by_cases h2 : (w, u) = e
    · rcases hxs with h3 | h3 <;> rw [h3] at h2 <;> injection h2 with h4 h5
      · rw [h5]; exact hss
      · rw [h5]; exact hx
    · refine Jn.step (v := w) ?_ ih
      rcases hf with hf | hf
      · exact .inl ((List.mem_erase_of_ne h1).mpr hf)
      · exact .inr ((List.mem_erase_of_ne h2).mpr hf)
def sumW (w : Nat → Nat → Int) (E : List (Nat × Nat)) : Int := (E.map fun e => w e.1 e.2).sum
def nearUp (w : Nat → Nat → Int) (J : Nat → Bool) (i : Nat) : Nat → Option Nat
  | 0 => none
  | k + 1 => match nearUp w J i k with
    | none => if J k = true then some k else none
    | some m => if J k = true ∧ w i k < w i m then some k else some m
def pickUp (w : Nat → Nat → Int) (J : Nat → Bool) (n : Nat) : Nat → Option (Nat × Nat)
  | 0 => none
  | i + 1 => match pickUp w J n i with
    | none => if J i = true then none else (nearUp w J i n).map fun m => (i, m)
    | some p => if J i = true then some p else match nearUp w J i n with
      | none => some p
      | some m => if w i m < w p.1 p.2 then some (i, m) else some p

def updP (w : Nat → Nat → Int) (J : Nat → Bool) (i : Nat) (p : Option (Nat × Nat)) (m : Option Nat) : Option (Nat × Nat) :=
  if J i = true then p else match m with
    | none => p
    | some m => match p with
      | none => some (i, m)
      | some q => if w i m < w q.1 q.2 then some (i, m) else some q
def jd (J : List Bool) (m : Nat) : Bool := rdOf false J (m : Int)
def primSt (w : Nat → Nat → Int) (n : Nat) : Nat → List Int × Int × List Bool
  | 0 => (List.replicate n (-1), 0, (List.replicate n false).set 0 true)
  | t + 1 => match pickUp w (jd (primSt w n t).2.2) n n with
    | none => primSt w n t
    | some q => ((primSt w n t).1.set q.1 (q.2 : Int), (primSt w n t).2.1 + w q.1 q.2, (primSt w n t).2.2.set q.1 true)
def sumTo (f : Nat → Int) : Nat → Int
  | 0 => 0
  | n + 1 => sumTo f n + f n
structure PrimOk (w : Nat → Nat → Int) (n : Nat) (E : List (Nat × Nat)) (t : Nat) (s : List Int × Int × List Bool) : Prop where
  l1 : s.1.length = n
  l2 : s.2.2.length = n
  cnt : s.2.2.count true = t + 1
  j0 : jd s.2.2 0 = true
  o0 : rd s.1 0 = -1
  up : ∀ i, i < n → i ≠ 0 → jd s.2.2 i = true → 0 ≤ rd s.1 i ∧ rd s.1 i < n ∧ rd s.1 i ≠ i
  all : ∀ i, i < n → -1 ≤ rd s.1 i ∧ rd s.1 i < n
  sum : s.2.1 = sumTo (fun i => if jd s.2.2 i = true ∧ i ≠ 0 then w i (rd s.1 i).toNat else 0) n
  pot : ∃ E', (∀ e ∈ E', e ∈ E) ∧ sumW w E' + s.2.1 ≤ sumW w E ∧ ∀ u, u < n → Jn E' (jd s.2.2) u

def isqUp (n : Int) : Nat → Int
  | 0 => 0
  | k + 1 => if ((k : Int) + 1) * ((k : Int) + 1) ≤ n then (k : Int) + 1 else isqUp n k
def isq (n : Int) : Int := isqUp n n.toNat
def goodB (a b c d : Int) : Bool := bothGood a b c d && (decide (0 ≤ a) && !decide (c * b < a * d))

def withinB (x y a b c d : Int) : Bool × Bool := if goodFrac x y = true ∧ goodB a b c d = true then (!decide (x * b < a * y) && !decide (c * y < x * d), true) else (false, false)

def rootB (n p : Int) : Int × Int × Int × Int × Bool :=
  if (0 ≤ n ∧ n ≤ 1000000000000) ∧ (1 ≤ p ∧ p ≤ 1000) ∧ n ≤ 1000000000000 / (p * p) then
    (lowNum (isq (n * p * p)) p, lowDen (isq (n * p * p)) p, lowNum (if isq (n * p * p) * isq (n * p * p) = n * p * p then isq (n * p * p) else isq (n * p * p) + 1) p, lowDen (if isq (n * p * p) * isq (n * p * p) = n * p * p then isq (n * p * p) else isq (n * p * p) + 1) p, true)
  else (0, 0, 0, 0, false)
def losOf (l : List S44) : List (Int × Int) := l.map fun b => (b.f0.f0, b.f0.f1)
def hisOf (l : List S44) : List (Int × Int) := l.map fun b => (b.f1.f0, b.f1.f1)
def sumB (l : List S44) : Int × Int × Int × Int × Bool :=
  if l.length ≤ 20 ∧ (l.all fun b => goodB b.f0.f0 b.f0.f1 b.f1.f0 b.f1.f1) = true ∧ (sumF (losOf l) (0, 1)).2.2 = true ∧ (sumF (hisOf l) (0, 1)).2.2 = true then
    ((sumF (losOf l) (0, 1)).1, (sumF (losOf l) (0, 1)).2.1, (sumF (hisOf l) (0, 1)).1, (sumF (hisOf l) (0, 1)).2.1, true)
  else (0, 0, 0, 0, false)

def csq (n : Int) : Int := if isq n * isq n = n then isq n else isq n + 1
def rootsL (flow : List Int) (p : Int) : Int := (flow.map fun f => isq (f * p * p)).sum
def rootsH (flow : List Int) (p : Int) : Int := (flow.map fun f => csq (f * p * p)).sum
def leastB (flow : List Int) (room p : Int) : Int × Int × Int × Int × Bool :=
  if flowOk flow = true ∧ (8 ≤ room ∧ room ≤ 1000) ∧ (1 ≤ p ∧ p ≤ 100) then
    (lowNum (rootsL flow p * rootsL flow p) (p * p * room), lowDen (rootsL flow p * rootsL flow p) (p * p * room), lowNum (rootsH flow p * rootsH flow p) (p * p * room), lowDen (rootsH flow p * rootsH flow p) (p * p * room), true)
  else (0, 0, 0, 0, false)
def bndOf (p f : Int) : S44 := ⟨⟨lowNum (isq (f * p * p)) p, lowDen (isq (f * p * p)) p⟩, ⟨lowNum (csq (f * p * p)) p, lowDen (csq (f * p * p)) p⟩⟩

theorem ev_all {β : Type} (n : Nat) (P : Nat → Bool) (g : Nat → Nat → Option β) (yes no : β)
    (hs : ∀ r i, i < n → P i = true → Ev (fun k => g k (i + 1)) r → Ev (fun k => g k i) r) (hno : ∀ i, i < n → P i = false → Ev (fun k => g k i) no)
    (hyes : (∀ i, i < n → P i = true) → Ev (fun k => g k n) yes) (b : Bool) (hb : b = true ↔ ∀ i, i < n → P i = true) : Ev (fun k => g k 0) (if b = true then yes else no) := by
  by_cases h : ∀ i, i < n → P i = true
  · rw [if_pos (hb.mpr h)]
    exact ev_up n g yes (fun _ => True) trivial (fun _ => hyes h) fun i hi _ hn => hs _ i hi (h i hi) (hn trivial)
  · rw [if_neg (fun hx => h (hb.mp hx))]
    have h1 : ∃ i, i < n ∧ P i = false := by
      refine Classical.byContradiction fun hc => h fun i hi => ?_
      cases hp : P i with
      | true => rfl
      | false => exact absurd ⟨i, hi, hp⟩ hc
    obtain ⟨m, hm, hmin⟩ := exists_least h1
    refine ev_up m g no (fun _ => True) trivial (fun _ => hno m hm.1 hm.2) fun i hi _ hn => hs _ i (by omega) ?_ (hn trivial)
    cases hp : P i with
    | true => rfl
    | false => have := hmin i ⟨by omega, hp⟩; omega
def allTo (P : Nat → Bool) (n : Nat) : Bool := (List.range n).all P
theorem allTo_iff (P : Nat → Bool) (n : Nat) : allTo P n = true ↔ ∀ i, i < n → P i = true := by simp [allTo, List.all_eq_true]

def KK : Int := 219060189739591200
def kd (c : Int) : Int := KK / c
def gK (c : Int) : Int := kd c - kd (c + 1)
def Stab (n : Nat) (f c : Nat → Int) : Prop := ∀ i k, i < n → k < n → i ≠ k → 1 < c i → f k * gK (c k) ≤ f i * gK (c i - 1)
def costN (n : Nat) (f c : Nat → Int) : Int := sumTo (fun i => f i * kd (c i)) n
def tK (x : Int × Int) : Int := x.1 * KK / x.2
def isT (x : Int × Int) (t : Int) : Prop := 1 ≤ x.2 ∧ x.1 * KK = x.2 * t
def ratioL (flow counts : List Int) : List (Int × Int) := (List.range flow.length).map fun (j : Nat) => (lowNum (rd flow j) (rd counts j), lowDen (rd flow j) (rd counts j))
def costF (flow counts : List Int) : Int × Int × Bool := if countsOk flow counts = true then sumF (ratioL flow counts) (0, 1) else (0, 0, false)

theorem cnt_and (p q : Nat → Bool) (n : Nat) : cnt p n = cnt (fun i => p i && q i) n + cnt (fun i => p i && !q i) n := by
  induction n with
  | zero => rfl
  | succ n ih => simp only [cnt]; rw [ih]; cases p n <;> cases q n <;> simp <;> omega
theorem cnt_or (p q : Nat → Bool) (n : Nat) : cnt (fun i => p i || q i) n ≤ cnt p n + cnt q n := by
  induction n with
  | zero => simp [cnt]
  | succ n ih => simp only [cnt]; cases p n <;> cases q n <;> simp <;> omega
theorem cnt_false (n : Nat) : cnt (fun _ => false) n = 0 := by
  induction n with
  | zero => rfl
  | succ n ih => simp only [cnt]; rw [ih]; rfl
theorem cnt_is (a : Int) (n : Nat) : cnt (fun i => decide ((i : Int) = a)) n ≤ 1 := by
  induction n with
  | zero => simp [cnt]
  | succ n ih =>
    simp only [cnt]
    by_cases h : (n : Int) = a
    · have : cnt (fun i => decide ((i : Int) = a)) n = cnt (fun _ => false) n := cnt_congr fun i hi => by simp; omega
      rw [this, cnt_false]; simp; cases decide ((n : Int) = a) <;> simp
    · rw [decide_eq_false h]; exact ih
theorem cnt_mem (l : List Int) (n : Nat) : cnt (fun i => decide ((i : Int) ∈ l)) n ≤ l.length := by
  induction l with
  | nil => rw [cnt_congr (q := fun _ => false) (fun i _ => by simp), cnt_false]; simp
  | cons a l ih =>
    have e : cnt (fun i => decide ((i : Int) ∈ a :: l)) n = cnt (fun i => decide ((i : Int) = a) || decide ((i : Int) ∈ l)) n := cnt_congr fun i _ => by simp
    have h1 := cnt_or (fun i => decide ((i : Int) = a)) (fun i => decide ((i : Int) ∈ l)) n
    have h2 := cnt_is a n
    rw [e, List.length_cons]; omega
theorem nodup_len (p : Nat → Bool) (n : Nat) (l : List Int) (hn : l.Nodup) (h : ∀ z ∈ l, ∃ i : Nat, z = (i : Int) ∧ i < n ∧ p i = true) : l.length ≤ cnt p n := by
  induction l generalizing p with
  | nil => simp
  | cons a l ih =>
    obtain ⟨i, rfl, hi, hp⟩ := h a (by simp)
    rw [List.nodup_cons] at hn
    rw [cnt_out hi hp, List.length_cons]
    have := ih (fun j => p j && decide (j ≠ i)) hn.2 (fun z hz => by
      obtain ⟨j, rfl, hj, hpj⟩ := h z (by simp [hz])
      refine ⟨j, rfl, hj, ?_⟩
      simp only [Bool.and_eq_true, decide_eq_true_eq]
      exact ⟨hpj, fun e => hn.1 (by rw [← e]; exact hz)⟩)
    omega
theorem RB.owned {F : Nat → Nat → Bool} {nb n : Nat} {o : List Int} (hk : Kuhn F nb n o) {y : Nat} (h : RB F nb n o y) : ∃ m : Nat, rd o (y : Int) = (m : Int) := by
  obtain ⟨D, hD, hU⟩ := hk.dead
  have key : ∀ l, RL F nb n o l → ∀ y : Nat, y < nb → F l y = true → D y := by
    intro l hl
    induction hl with
    | start hl hu => exact hU _ hl hu
    | @next l y m hp hy hf hm ih =>
      obtain ⟨_, m', h1, h2⟩ := hD _ (ih _ hy hf)
      obtain rfl : m' = m := by omega
      exact h2
  obtain ⟨hy, l, hl, hf⟩ := h
  obtain ⟨_, m, hm, _⟩ := hD y (key l hl y hy hf)
  exact ⟨m, hm⟩
theorem konig_count {F : Nat → Nat → Bool} {nb n : Nat} {o : List Int} {ls bs : List Bool} (hk : Kuhn F nb n o) (hR : IsReach F nb n o ls bs) :
    cnt (fun l => decide (rd (matchAt o n nb) (l : Int) ≥ 0)) n = cnt (fun l => rdOf false ls (l : Int) == false) n + cnt (fun y => rdOf false bs (y : Int) == true) nb := by
  have hneg : ∀ l : Nat, l < n → (¬ rd (matchAt o n nb) (l : Int) ≥ 0 ↔ ∀ x : Nat, x < nb → rd o (x : Int) ≠ (l : Int)) := fun l hl => by
    rw [← matchAt_neg hk hl]; omega
  have hsome : ∀ l : Nat, l < n → rd (matchAt o n nb) (l : Int) ≥ 0 → ∃ b : Nat, b < nb ∧ rd (matchAt o n nb) (l : Int) = (b : Int) ∧ rd o (b : Int) = (l : Int) := fun l hl h => by
    by_cases hx : ∃ x : Nat, x < nb ∧ rd o (x : Int) = (l : Int)
    · obtain ⟨x, hx, he⟩ := hx
      exact ⟨x, hx, (matchAt_iff hk hl hx).mpr he, he⟩
    · exact absurd h ((hneg l hl).mpr fun x hx2 he => hx ⟨x, hx2, he⟩)
  rw [cnt_and (fun l => decide (rd (matchAt o n nb) (l : Int) ≥ 0)) (fun l => rdOf false ls (l : Int) == false) n]
  congr 1
  · refine cnt_congr fun l hl => ?_
    cases hx : rdOf false ls (l : Int) with
    | true => simp
    | false =>
      have : rd (matchAt o n nb) (l : Int) ≥ 0 := Classical.byContradiction fun h => by
        have := (hR.rl l hl).mpr (.start hl ((hneg l hl).mp h))
        rw [hx] at this; cases this
      simp [this]
  · apply Nat.le_antisymm
    · refine cnt_inj (fun l => (rd (matchAt o n nb) (l : Int)).toNat) _ n (fun l hl hp => ?_) (fun l l' hl hl' hp hp' e => ?_)
      · simp only [Bool.and_eq_true, decide_eq_true_eq, Bool.not_eq_true', beq_eq_false_iff_ne, ne_eq, Bool.not_eq_false] at hp
        obtain ⟨b, hb, h1, h2⟩ := hsome l hl hp.1
        rw [h1, toNat_nat]
        refine ⟨hb, beq_iff_eq.mpr ((hR.rb b hb).mpr ?_)⟩
        have hrl := (hR.rl l hl).mp hp.2
        cases hrl with
        | start _ hu => exact absurd h2 (hu b hb)
        | @next l' y _ hp' hy hf hm =>
          have := hk.inj y b l hy hb hm h2
          subst this
          exact ⟨hb, l', hp', hf⟩
      · simp only [Bool.and_eq_true, decide_eq_true_eq] at hp hp'
        obtain ⟨b, hb, h1, h2⟩ := hsome l hl hp.1
        obtain ⟨b', hb', h1', h2'⟩ := hsome l' hl' hp'.1
        rw [h1, h1', toNat_nat, toNat_nat] at e
        subst e
        omega
    · refine cnt_inj (fun y => (rd o (y : Int)).toNat) _ nb (fun y hy hp => ?_) (fun y y' hy hy' hp hp' e => ?_)
      · have hrb := (hR.rb y hy).mp (by simpa using hp)
        obtain ⟨m, hm⟩ := hrb.owned hk
        have hmn : m < n := by have := hk.rng y hy; omega
        obtain ⟨_, l, hl, hf⟩ := hrb
        have h1 : rdOf false ls (m : Int) = true := (hR.rl m hmn).mpr (.next hl hy hf hm)
        have h2 : rd (matchAt o n nb) (m : Int) = (y : Int) := (matchAt_iff hk hmn hy).mpr hm
        rw [hm, toNat_nat]
        refine ⟨hmn, ?_⟩
        simp only [h1, h2]; simp
      · obtain ⟨m, hm⟩ := ((hR.rb y hy).mp (by simpa using hp)).owned hk
        obtain ⟨m', hm'⟩ := ((hR.rb y' hy').mp (by simpa using hp')).owned hk
        rw [hm, hm', toNat_nat, toNat_nat] at e
        subst e
        exact hk.inj y y' m hy hy' hm hm'
structure IsM (F : Nat → Nat → Bool) (nb n : Nat) (x : List Int) : Prop where
  len : x.length = n
  rng : ∀ l : Nat, l < n → -1 ≤ rd x (l : Int) ∧ rd x (l : Int) < nb
  fit : ∀ (l b : Nat), l < n → rd x (l : Int) = (b : Int) → F l b = true
  inj : ∀ (l l' b : Nat), l < n → l' < n → rd x (l : Int) = (b : Int) → rd x (l' : Int) = (b : Int) → l = l'
theorem IsM.of_kuhn {F : Nat → Nat → Bool} {nb n : Nat} {o : List Int} (hk : Kuhn F nb n o) : IsM F nb n (matchAt o n nb) := by
  have hsome : ∀ l : Nat, l < n → (∃ b : Nat, b < nb ∧ rd (matchAt o n nb) (l : Int) = (b : Int) ∧ rd o (b : Int) = (l : Int)) ∨ rd (matchAt o n nb) (l : Int) = -1 := fun l hl => by
    by_cases hx : ∃ x : Nat, x < nb ∧ rd o (x : Int) = (l : Int)
    · obtain ⟨x, hx, he⟩ := hx
      exact .inl ⟨x, hx, (matchAt_iff hk hl hx).mpr he, he⟩
    · exact .inr (matchAt_none hl nb fun x hx2 he => hx ⟨x, hx2, he⟩)
  refine ⟨matchAt_len _ _ _, fun l hl => ?_, fun l b hl h => ?_, fun l l' b hl hl' h h' => ?_⟩
  · rcases hsome l hl with ⟨b, hb, h, _⟩ | h <;> omega
  · rcases hsome l hl with ⟨b', hb, h1, h2⟩ | h1
    · obtain rfl : b' = b := by omega
      exact hk.fit b' l hb h2
    · omega
  · rcases hsome l hl with ⟨b1, hb1, h1, h2⟩ | h1
    · rcases hsome l' hl' with ⟨b2, hb2, h3, h4⟩ | h3
      · obtain rfl : b1 = b := by omega
        obtain rfl : b2 = b1 := by omega
        omega
      · omega
    · omega
theorem IsM.le_cover {F : Nat → Nat → Bool} {nb n : Nat} {x : List Int} (h : IsM F nb n x) (A B : List Int) (hc : ∀ l b : Nat, l < n → b < nb → F l b = true → (l : Int) ∈ A ∨ (b : Int) ∈ B) :
    cnt (fun l => decide (rd x (l : Int) ≥ 0)) n ≤ A.length + B.length := by
  have h1 : cnt (fun l => decide (rd x (l : Int) ≥ 0)) n ≤ cnt (fun j => if j < n then decide ((j : Int) ∈ A) else decide (((j - n : Nat) : Int) ∈ B)) (n + nb) := by
    refine cnt_inj (fun l => if (l : Int) ∈ A then l else n + (rd x (l : Int)).toNat) _ n (fun l hl hp => ?_) (fun l l' hl hl' hp hp' e => ?_)
    · have hp : rd x (l : Int) ≥ 0 := by simpa using hp
      obtain ⟨b, hb⟩ := exists_nat_of_nonneg hp
      have hr := h.rng l hl
      by_cases ha : (l : Int) ∈ A
      · rw [if_pos ha]; exact ⟨by omega, by rw [if_pos hl]; exact decide_eq_true ha⟩
      · rw [if_neg ha, hb, toNat_nat]
        refine ⟨by omega, ?_⟩
        rw [if_neg (by omega), show n + b - n = b by omega]
        rcases hc l b hl (by omega) (h.fit l b hl hb) with h2 | h2
        · exact absurd h2 ha
        · exact decide_eq_true h2
    · have hp : rd x (l : Int) ≥ 0 := by simpa using hp
      have hp' : rd x (l' : Int) ≥ 0 := by simpa using hp'
      obtain ⟨b, hb⟩ := exists_nat_of_nonneg hp
      obtain ⟨b', hb'⟩ := exists_nat_of_nonneg hp'
      rw [hb, hb', toNat_nat, toNat_nat] at e
      by_cases ha : (l : Int) ∈ A <;> by_cases ha' : (l' : Int) ∈ A
      · rw [if_pos ha, if_pos ha'] at e; exact e
      · rw [if_pos ha, if_neg ha'] at e; omega
      · rw [if_neg ha, if_pos ha'] at e; omega
      · rw [if_neg ha, if_neg ha'] at e
        obtain rfl : b = b' := by omega
        exact h.inj l l' b hl hl' hb hb'
  rw [cnt_add] at h1
  have e1 : cnt (fun j => if j < n then decide ((j : Int) ∈ A) else decide (((j - n : Nat) : Int) ∈ B)) n = cnt (fun j => decide ((j : Int) ∈ A)) n := cnt_congr fun i hi => by rw [if_pos hi]
  have e2 : cnt (fun j => (fun j => if j < n then decide ((j : Int) ∈ A) else decide (((j - n : Nat) : Int) ∈ B)) (n + j)) nb = cnt (fun j => decide ((j : Int) ∈ B)) nb := cnt_congr fun i hi => by
    dsimp only
    rw [if_neg (by omega), show n + i - n = i by omega]
  rw [e1, e2] at h1
  have := cnt_mem A n
  have := cnt_mem B nb
  omega
theorem reach_cover {F : Nat → Nat → Bool} {nb n : Nat} {o : List Int} {ls bs : List Bool} (hR : IsReach F nb n o ls bs) (l b : Nat) (hl : l < n) (hb : b < nb) (hf : F l b = true) : (l : Int) ∈ numsOf ls false n ∨ (b : Int) ∈ numsOf bs true nb := by
  by_cases h : rdOf false ls (l : Int) = true
  · exact .inr ((numsOf_mem _ _ _ _).mpr ⟨b, rfl, hb, (hR.rb b hb).mpr ⟨hb, l, (hR.rl l hl).mp h, hf⟩⟩)
  · exact .inl ((numsOf_mem _ _ _ _).mpr ⟨l, rfl, hl, by simpa using h⟩)
theorem kuhn_most {F : Nat → Nat → Bool} {nb n : Nat} {o : List Int} {ls bs : List Bool} (hk : Kuhn F nb n o) (hR : IsReach F nb n o ls bs) {x : List Int} (h : IsM F nb n x) :
    cnt (fun l => decide (rd x (l : Int) ≥ 0)) n ≤ cnt (fun l => decide (rd (matchAt o n nb) (l : Int) ≥ 0)) n := by
  have h1 := h.le_cover (numsOf ls false n) (numsOf bs true nb) (reach_cover hR)
  rw [numsOf_len, numsOf_len] at h1
  rw [konig_count hk hR]
  exact h1

theorem slices_Contains_ev (l : List Int) (a : Int) (hl : l.length ≤ 1048576) : Ev (fun k => slices_Contains_int_int.f k l a) (decide (a ∈ l)) := by
  unfold slices_Contains_int_int.f slices_Index_int_int.f
  have gen : ∀ (d i : Nat), i + d = l.length → ∃ j : Int, Ev (fun k => slices_Index_int_int.l0 k l a (l.length : Int) (i : Int)) j ∧ (decide (j ≥ 0) = decide (a ∈ l.drop i)) := by
    intro d
    induction d with
    | zero =>
      intro i hi
      refine ⟨-1, ?_, by rw [List.drop_of_length_le (by omega)]; simp⟩
      refine Ev.succ ?_; simp only [slices_Index_int_int.l0]; exact Ev.neg (by omega) (Ev.now _)
    | succ d ih =>
      intro i hi
      have hi' : i < l.length := by omega
      by_cases he : a = l[i]
      · refine ⟨i, ?_, ?_⟩
        · refine Ev.succ ?_
          simp only [slices_Index_int_int.l0]
          rw [rd_nat l i hi']
          exact Ev.pos (by omega) (Ev.pos (by omega) (Ev.pos (by omega) (Ev.pos he (Ev.now _))))
        · rw [List.drop_eq_getElem_cons hi', ← he]; simp
      · obtain ⟨j, h1, h2⟩ := ih (i + 1) (by omega)
        refine ⟨j, ?_, ?_⟩
        · refine Ev.succ ?_
          simp only [slices_Index_int_int.l0]
          rw [rd_nat l i hi', w64n hi' (by omega)]
          exact Ev.pos (by omega) (Ev.pos (by omega) (Ev.pos (by omega) (Ev.neg he h1)))
        · rw [h2, decide_eq_decide, List.drop_eq_getElem_cons hi', List.mem_cons]
          exact ⟨.inr, fun h => h.elim (fun h => absurd h he) id⟩
  obtain ⟨j, h1, h2⟩ := gen l.length 0 (by omega)
  refine Ev.to (Ev.bind h1 (Ev.now _)) ?_
  rw [h2, List.drop_zero]

def okAt (fits : List (List Bool)) (m : List Int) (i : Nat) : Bool := decide (rd m (i : Int) = -1) || ((decide (0 ≤ rd m (i : Int)) && decide (rd m (i : Int) < nbOf fits)) && (rdOf false (fits.getD i []) (rd m (i : Int)) && !decide (rd m (i : Int) ∈ m.take i)))
def isMat (fits : List (List Bool)) (m : List Int) : Bool := decide (m.length = fits.length) && allTo (okAt fits m) m.length
def isMF (fits : List (List Bool)) (m : List Int) : Bool × Bool := if fitOk fits = true then (isMat fits m, true) else (false, false)
theorem ite_bool (b : Bool) : (if b = true then (true, true) else (false, true)) = (b, true) := by cases b <;> rfl
theorem ite_bool1 (b : Bool) : (if b = true then true else false) = b := by cases b <;> rfl

theorem impl_IsMatching_ev (fits : List (List Bool)) (m : List Int) (h : fits.length ≤ 1048576) (hm : m.length ≤ 1048576) : Ev (fun k => impl_IsMatching.f k fits m) (isMF fits m) := by
  unfold impl_IsMatching.f isMF
  refine Ev.bind (impl_GoodFits_ev fits h) (Ev.ite (fun hg => ?_) (fun hg => by rw [if_neg hg]; exact Ev.now _))
  rw [if_pos hg]
  obtain ⟨h8, hb8, hw⟩ := (fitOk_iff fits).mp hg
  unfold isMat
  by_cases hl : m.length = fits.length
  · rw [decide_eq_true hl, Bool.true_and]
    refine Ev.pos (by omega) ?_
    rw [← ite_bool (allTo (okAt fits m) m.length)]
    refine ev_all m.length (okAt fits m) (fun k i => impl_IsMatching.l0 k fits m m (m.length : Int) (i : Int)) (true, true) (false, true) (fun r i hi hp hn => ?_) (fun i hi hp => ?_) (fun _ => ?_) _ (allTo_iff _ _)
    · refine Ev.succ ?_
      simp only [impl_IsMatching.l0]
      rw [w64n hi (by omega), fits_rd, hw i (by omega)]
      refine Ev.pos (by omega) (Ev.pos (by omega) (Ev.pos (by omega) (Ev.ite (fun _ => hn) (fun h1 => ?_))))
      unfold okAt at hp
      rw [decide_eq_false h1, Bool.false_or, Bool.and_eq_true, Bool.and_eq_true, Bool.and_eq_true, decide_eq_true_eq, decide_eq_true_eq, Bool.not_eq_true', decide_eq_false_iff_not] at hp
      obtain ⟨⟨a1, a2⟩, a3, a4⟩ := hp
      rw [w64 (x := (nbOf fits : Int) - 1) (by omega) (by omega)]
      refine Ev.pos (by omega) (Ev.bind0 (impl_within_eq _ _ _) (Ev.pos (by simp; omega) (Ev.pos a1 (Ev.pos a2 (Ev.pos a3 (Ev.pos (by omega) (Ev.bind (slices_Contains_ev _ _ (by rw [List.length_take]; omega)) (Ev.neg ?_ hn))))))))
      rw [toNat_nat]; simpa using a4
    · refine Ev.succ ?_
      simp only [impl_IsMatching.l0]
      rw [w64n hi (by omega), fits_rd, hw i (by omega)]
      unfold okAt at hp
      rw [Bool.or_eq_false_iff, decide_eq_false_iff_not] at hp
      rw [w64 (x := (nbOf fits : Int) - 1) (by omega) (by omega)]
      refine Ev.pos (by omega) (Ev.pos (by omega) (Ev.pos (by omega) (Ev.neg hp.1 (Ev.pos (by omega) (Ev.bind0 (impl_within_eq _ _ _) (Ev.ite (fun h1 => ?_) (fun _ => Ev.now _)))))))
      rw [Bool.and_eq_true, decide_eq_true_eq, decide_eq_true_eq] at h1
      rw [decide_eq_true (show 0 ≤ rd m (i : Int) from h1.1), decide_eq_true (show rd m (i : Int) < (nbOf fits : Int) by omega)] at hp
      refine Ev.pos h1.1 (Ev.pos (by omega) (Ev.ite (fun h2 => ?_) (fun _ => Ev.now _)))
      rw [h2] at hp
      refine Ev.pos (by omega) (Ev.bind (slices_Contains_ev _ _ (by rw [List.length_take]; omega)) (Ev.pos ?_ (Ev.now _)))
      rw [toNat_nat]; simpa using hp.2
    · refine Ev.succ ?_; simp only [impl_IsMatching.l0]; exact Ev.neg (by omega) (Ev.now _)
  · rw [decide_eq_false hl]; exact Ev.neg (by omega) (Ev.now _)

theorem spec_IsMatching_ev (fits : List (List Bool)) (m : List Int) (h : fits.length ≤ 1048576) (hm : m.length ≤ 1048576) : Ev (fun k => spec_IsMatching.f k fits m) (isMF fits m) := by
  unfold spec_IsMatching.f isMF
  refine Ev.bind (spec_GoodFits_ev fits h) (Ev.ite (fun hg => ?_) (fun hg => by rw [if_neg hg]; exact Ev.now _))
  rw [if_pos hg]
  obtain ⟨h8, hb8, hw⟩ := (fitOk_iff fits).mp hg
  refine Ev.bind (a := isMat fits m) ?_ (Ev.now _)
  unfold spec_l8Matching.f isMat
  by_cases hl : m.length = fits.length
  · rw [decide_eq_true hl, Bool.true_and]
    refine Ev.pos (by omega) ?_
    rw [← ite_bool1 (allTo (okAt fits m) m.length)]
    refine ev_all m.length (okAt fits m) (fun k i => spec_l8Matching.l0 k fits m m (m.length : Int) (i : Int)) true false (fun r i hi hp hn => ?_) (fun i hi hp => ?_) (fun _ => ?_) _ (allTo_iff _ _)
    · refine Ev.succ ?_
      simp only [spec_l8Matching.l0]
      rw [w64n hi (by omega), fits_rd, hw i (by omega)]
      refine Ev.pos (by omega) (Ev.pos (by omega) (Ev.pos (by omega) (Ev.ite (fun _ => hn) (fun h1 => ?_))))
      unfold okAt at hp
      rw [decide_eq_false h1, Bool.false_or, Bool.and_eq_true, Bool.and_eq_true, Bool.and_eq_true, decide_eq_true_eq, decide_eq_true_eq, Bool.not_eq_true', decide_eq_false_iff_not] at hp
      obtain ⟨⟨a1, a2⟩, a3, a4⟩ := hp
      refine Ev.neg (by omega) (Ev.pos (by omega) (Ev.neg (by omega) (Ev.pos a1 (Ev.pos a2 (Ev.pos a3 (Ev.pos (by omega) (Ev.bind (spec_l1Has_ev _ _ (by rw [List.length_take]; omega)) (Ev.neg ?_ hn))))))))
      rw [toNat_nat]; simpa using a4
    · refine Ev.succ ?_
      simp only [spec_l8Matching.l0]
      rw [w64n hi (by omega), fits_rd, hw i (by omega)]
      unfold okAt at hp
      rw [Bool.or_eq_false_iff, decide_eq_false_iff_not] at hp
      refine Ev.pos (by omega) (Ev.pos (by omega) (Ev.pos (by omega) (Ev.neg hp.1 (Ev.ite (fun _ => Ev.now _) (fun h0 => Ev.pos (by omega) (Ev.ite (fun _ => Ev.now _) (fun h1 => ?_)))))))
      rw [decide_eq_true (show 0 ≤ rd m (i : Int) by omega), decide_eq_true (show rd m (i : Int) < (nbOf fits : Int) by omega)] at hp
      refine Ev.pos (by omega) (Ev.pos (by omega) (Ev.ite (fun h2 => ?_) (fun _ => Ev.now _)))
      rw [h2] at hp
      refine Ev.pos (by omega) (Ev.bind (spec_l1Has_ev _ _ (by rw [List.length_take]; omega)) (Ev.pos ?_ (Ev.now _)))
      rw [toNat_nat]; simpa using hp.2
    · refine Ev.succ ?_; simp only [spec_l8Matching.l0]; exact Ev.neg (by omega) (Ev.now _)
  · rw [decide_eq_false hl]; exact Ev.neg (by omega) (Ev.now _)

theorem mem_take_iff (m : List Int) (i : Nat) (z : Int) (hi : i ≤ m.length) : z ∈ m.take i ↔ ∃ j : Nat, j < i ∧ rd m (j : Int) = z := by
  constructor
  · intro h
    obtain ⟨j, hj, rfl⟩ := List.getElem_of_mem h
    rw [List.length_take] at hj
    refine ⟨j, by omega, ?_⟩
    rw [rd_nat m j (by omega), List.getElem_take]
  · rintro ⟨j, hj, rfl⟩
    rw [rd_nat m j (by omega), ← List.getElem_take (j := i) (h := by rw [List.length_take]; omega)]
    exact List.getElem_mem _
theorem isMat_iff (fits : List (List Bool)) (m : List Int) : isMat fits m = true ↔ IsM (fitF fits) (nbOf fits) fits.length m := by
  unfold isMat
  rw [Bool.and_eq_true, decide_eq_true_eq, allTo_iff]
  constructor
  · rintro ⟨hl, h⟩
    have h2 : ∀ i : Nat, i < fits.length → rd m (i : Int) = -1 ∨ ((0 ≤ rd m (i : Int) ∧ rd m (i : Int) < nbOf fits) ∧ rdOf false (fits.getD i []) (rd m (i : Int)) = true ∧ ¬ rd m (i : Int) ∈ m.take i) := fun i hi => by
      have := h i (by omega)
      simpa [okAt, and_assoc] using this
    refine ⟨hl, fun l hl => ?_, fun l b hl e => ?_, ?_⟩
    · rcases h2 l hl with h3 | h3 <;> omega
    · rcases h2 l hl with h3 | h3
      · omega
      · rw [e] at h3; exact h3.2.1
    · have asym : ∀ (l l' b : Nat), l < fits.length → l' < fits.length → l < l' → rd m (l : Int) = (b : Int) → rd m (l' : Int) = (b : Int) → False := fun l l' b hl1 hl2 hlt e e' => by
        rcases h2 l' hl2 with h3 | h3
        · omega
        · exact h3.2.2 ((mem_take_iff m l' _ (by omega)).mpr ⟨l, hlt, by omega⟩)
      intro l l' b hl1 hl2 e e'
      rcases Nat.lt_trichotomy l l' with h3 | h3 | h3
      · exact (asym l l' b hl1 hl2 h3 e e').elim
      · exact h3
      · exact (asym l' l b hl2 hl1 h3 e' e).elim
  · intro h
    refine ⟨h.len, fun i hi => ?_⟩
    have hi' : i < fits.length := by have := h.len; omega
    have hr := h.rng i hi'
    by_cases h1 : rd m (i : Int) = -1
    · simp [okAt, h1]
    · obtain ⟨b, hb⟩ := exists_nat_of_nonneg (show 0 ≤ rd m (i : Int) by omega)
      have h3 : ¬ rd m (i : Int) ∈ m.take i := fun hx => by
        obtain ⟨j, hj, e⟩ := (mem_take_iff m i _ (by omega)).mp hx
        have := h.inj j i b (by omega) hi' (by omega) hb
        omega
      have h4 : rdOf false (fits.getD i []) (rd m (i : Int)) = true := by rw [hb]; exact h.fit i b hi' hb
      unfold okAt
      rw [decide_eq_false h1, decide_eq_true (show 0 ≤ rd m (i : Int) by omega), decide_eq_true hr.2, h4, decide_eq_false h3]; rfl

def countB (m : List Int) : Bool := decide (m.length ≤ 8) && allIn m (-1) 7
def countF (m : List Int) : Int × Bool := if countB m = true then ((cnt (fun l => decide (rd m (l : Int) ≥ 0)) m.length : Nat), true) else (0, false)

theorem impl_CountIn_ev (m : List Int) (h : m.length ≤ 1048576) : Ev (fun k => impl_CountIn.f k m) (countF m) := by
  unfold impl_CountIn.f countF countB
  have no : ∀ x : Bool, x = true → Ev (fun k => impl_CountIn.j0 k m x) (0, false) := fun x hx => by
    refine Ev.succ ?_; simp only [impl_CountIn.j0]; exact Ev.pos hx (Ev.now _)
  by_cases h8 : (m.length : Int) > 8
  · rw [decide_eq_false (by omega), Bool.false_and, if_neg (by simp)]; exact Ev.pos h8 (no _ rfl)
  · rw [decide_eq_true (by omega), Bool.true_and]
    refine Ev.neg h8 (Ev.bind (impl_allWithin_ev m (-1) 7 (by omega)) ?_)
    cases hb : allIn m (-1) 7 with
    | false => rw [if_neg (by simp)]; exact no _ rfl
    | true =>
      rw [if_pos rfl]
      refine Ev.succ ?_
      simp only [impl_CountIn.j0]
      refine Ev.neg (by simp) ?_
      refine ev_up m.length (fun k i => impl_CountIn.l0 k ((cnt (fun l => decide (rd m (l : Int) ≥ 0)) i : Nat) : Int) m (m.length : Int) (i : Int)) _ (fun _ => True) trivial ?_ ?_
      · intro _; refine Ev.succ ?_; simp only [impl_CountIn.l0]; exact Ev.neg (by omega) (Ev.now _)
      · intro i hi _ hn
        have hn := hn trivial
        have := cnt_le (fun l => decide (rd m (l : Int) ≥ 0)) i
        refine Ev.succ ?_
        simp only [impl_CountIn.l0]
        rw [w64n hi (by omega), w64 (by omega) (by omega)]
        simp only [cnt] at hn
        refine Ev.pos (by omega) (Ev.pos (by omega) (Ev.pos (by omega) (Ev.ite (fun h1 => ?_) (fun h1 => ?_))))
        · rw [decide_eq_true h1] at hn; exact hn
        · rw [decide_eq_false h1] at hn; exact hn

theorem spec_CountIn_ev (m : List Int) (h : m.length ≤ 1048576) : Ev (fun k => spec_CountIn.f k m) (countF m) := by
  unfold spec_CountIn.f countF countB
  by_cases h8 : (m.length : Int) > 8
  · rw [decide_eq_false (by omega), Bool.false_and, if_neg (by simp)]; exact Ev.pos h8 (Ev.now _)
  · rw [decide_eq_true (by omega), Bool.true_and]
    refine Ev.neg h8 (Ev.bind (spec_l1All_ev m (-1) 7 (by omega)) ?_)
    cases hb : allIn m (-1) 7 with
    | false => rw [if_neg (by simp)]; exact Ev.neg (by simp) (Ev.now _)
    | true =>
      rw [if_pos rfl]
      refine Ev.pos rfl (Ev.bind (a := ((cnt (fun l => decide (rd m (l : Int) ≥ 0)) m.length : Nat) : Int)) ?_ (Ev.now _))
      unfold spec_l8Count.f
      refine ev_up m.length (fun k i => spec_l8Count.l0 k ((cnt (fun l => decide (rd m (l : Int) ≥ 0)) i : Nat) : Int) m (m.length : Int) (i : Int)) _ (fun _ => True) trivial ?_ ?_
      · intro _; refine Ev.succ ?_; simp only [spec_l8Count.l0]; exact Ev.neg (by omega) (Ev.now _)
      · intro i hi _ hn
        have hn := hn trivial
        have := cnt_le (fun l => decide (rd m (l : Int) ≥ 0)) i
        refine Ev.succ ?_
        simp only [spec_l8Count.l0]
        rw [w64n hi (by omega), w64 (by omega) (by omega)]
        simp only [cnt] at hn
        refine Ev.pos (by omega) (Ev.pos (by omega) (Ev.pos (by omega) (Ev.ite (fun h1 => ?_) (fun h1 => ?_))))
        · rw [decide_eq_true h1] at hn; exact hn
        · rw [decide_eq_false h1] at hn; exact hn

theorem IsM.countB {F : Nat → Nat → Bool} {nb n : Nat} {x : List Int} (h : IsM F nb n x) (hn : n ≤ 8) (hb : nb ≤ 8) : countF x = (((cnt (fun l => decide (rd x (l : Int) ≥ 0)) n : Nat) : Int), true) := by
  have hl := h.len
  have hc : Pure.countB x = true := by
    unfold Pure.countB
    rw [Bool.and_eq_true, decide_eq_true_eq, allIn_iff]
    refine ⟨by omega, fun z hz => ?_⟩
    obtain ⟨i, hi, rfl⟩ := List.getElem_of_mem hz
    have := h.rng i (by omega)
    rw [rd_nat x i hi] at this
    omega
  unfold countF
  rw [if_pos hc, hl]

theorem cur_fits (l : List Int) (a s : Int) (hl : bytesOk l) (ha : 0 ≤ a ∧ a ≤ 4611686018427380000) :
    ∃ (r : List (List Bool)) (a' s' : Int), Ev (fun k => spec_l1Cur_fits.f k l a s) (r, a', s') ∧ r.length ≤ 100 ∧ a ≤ a' ∧ a' ≤ a + 1000 := by
  have rows : ∀ (n m : Nat) (x : List (List Bool)) (a s : Int), m ≤ 10 → x.length + n ≤ 100 → (∀ r ∈ x, r.length = m) → (0 ≤ a ∧ a + 20 * n + 10 ≤ 4611686018427387000) →
      ∃ (r : List (List Bool)) (a' s' : Int), Ev (fun k => spec_l1Cur_fits.l0 k (n : Int) (m : Int) x l a s) (r, a', s') ∧ r.length ≤ 100 ∧ a ≤ a' ∧ a' ≤ a + 20 * n + 10 := by
    intro n
    induction n with
    | zero =>
      intro m x a s hm hx hr ha
      by_cases h1 : (x.length : Int) > 1
      · by_cases h2 : (m : Int) > 0
        · obtain ⟨b, a1, s1, e1, q1⟩ := cur_one l a s 30 hl (by omega)
          cases b with
          | true =>
            refine ⟨x.set 1 ((rd_L7 x 1).drop 1), a1, s1, Ev.succ ?_, by rw [List.length_set]; omega, by omega, by omega⟩
            simp only [spec_l1Cur_fits.l0]
            refine Ev.neg (by omega) (Ev.pos h1 (Ev.pos h2 (Ev.bind0 e1 (Ev.pos rfl (Ev.pos (by omega) (Ev.pos ?_ (Ev.now _)))))))
            have e : rd_L7 x 1 = x[1] := by rw [show (1 : Int) = ((1 : Nat) : Int) from rfl, fits_rd, fits_get x 1 (by omega)]
            rw [e, hr _ (List.getElem_mem (by omega))]; omega
          | false =>
            refine ⟨x, a1, s1, Ev.succ ?_, by omega, by omega, by omega⟩
            simp only [spec_l1Cur_fits.l0]
            exact Ev.neg (by omega) (Ev.pos h1 (Ev.pos h2 (Ev.bind0 e1 (Ev.neg (by simp) (Ev.now _)))))
        · refine ⟨x, a, s, Ev.succ ?_, by omega, by omega, by omega⟩
          simp only [spec_l1Cur_fits.l0]
          exact Ev.neg (by omega) (Ev.pos h1 (Ev.neg h2 (Ev.now _)))
      · refine ⟨x, a, s, Ev.succ ?_, by omega, by omega, by omega⟩
        simp only [spec_l1Cur_fits.l0]
        exact Ev.neg (by omega) (Ev.neg h1 (Ev.now _))
    | succ n ih =>
      intro m x a s hm hx hr ha
      have bins : ∀ (d i : Nat) (y : List Bool) (a s : Int), i + d = m → y.length = i → (0 ≤ a ∧ a + 2 * d + 20 * n + 10 ≤ 4611686018427387000) →
          ∃ (r : List (List Bool)) (a' s' : Int), Ev (fun k => spec_l1Cur_fits.l1 k ((n + 1 : Nat) : Int) (m : Int) x y (i : Int) l a s) (r, a', s') ∧ r.length ≤ 100 ∧ a ≤ a' ∧ a' ≤ a + 2 * d + 20 * n + 10 := by
        intro d
        induction d with
        | zero =>
          intro i y a s hi hy ha
          obtain ⟨r, a1, s1, hE, h1, h2, h3⟩ := ih m (x ++ [y]) a s hm (by simp; omega) (fun r hr2 => by
            rcases List.mem_append.mp hr2 with h | h
            · exact hr r h
            · rw [List.mem_singleton.mp h]; omega) (by omega)
          refine ⟨r, a1, s1, Ev.succ ?_, h1, by omega, by omega⟩
          simp only [spec_l1Cur_fits.l1]
          rw [w64 (x := ((n + 1 : Nat) : Int) - 1) (by omega) (by omega), show ((n + 1 : Nat) : Int) - 1 = (n : Int) by omega]
          exact Ev.neg (by omega) (Ev.pos (by omega) hE)
        | succ d ihd =>
          intro i y a s hi hy ha
          obtain ⟨b, a1, s1, e1, q1⟩ := cur_one l a s 3 hl (by omega)
          obtain ⟨r, a2, s2, hE, h1, h2, h3⟩ := ihd (i + 1) (y ++ [b]) a1 s1 (by omega) (by simp; omega) (by omega)
          refine ⟨r, a2, s2, Ev.succ ?_, h1, by omega, by omega⟩
          simp only [spec_l1Cur_fits.l1]
          rw [w64 (x := (i : Int) + 1) (by omega) (by omega)]
          exact Ev.pos (by omega) (Ev.bind0 e1 (Ev.pos (by omega) hE))
      obtain ⟨r, a1, s1, hE, h1, h2, h3⟩ := bins m 0 [] a s (by omega) rfl (by omega)
      refine ⟨r, a1, s1, Ev.succ ?_, h1, by omega, by omega⟩
      simp only [spec_l1Cur_fits.l0]
      exact Ev.pos (by omega) hE
  unfold spec_l1Cur_fits.f
  obtain ⟨n, a1, s1, e1, n0, n1, n2, n3⟩ := cur_pick l a s 6 hl (by omega)
  obtain ⟨m, a2, s2, e2, m0, m1, m2, m3⟩ := cur_pick l a1 s1 6 hl (by omega)
  obtain ⟨b, a3, s3, e3, b1, b2⟩ := cur_one l a2 s2 20 hl (by omega)
  obtain ⟨m', rfl⟩ := exists_nat_of_nonneg m0
  cases b with
  | true =>
    obtain ⟨p, a4, s4, e4, p0, p1, p2, p3⟩ := cur_pick l a3 s3 2 hl (by omega)
    obtain ⟨n', hn'⟩ := exists_nat_of_nonneg (show 0 ≤ 8 + p by omega)
    obtain ⟨r, a5, s5, hE, h1, h2, h3⟩ := rows n' m' [] a4 s4 (by omega) (by simp; omega) (by simp) (by omega)
    refine ⟨r, a5, s5, Ev.bind0 e1 (Ev.bind0 e2 (Ev.bind0 e3 (Ev.pos rfl (Ev.bind0 e4 (Ev.succ ?_))))), h1, by omega, by omega⟩
    simp only [spec_l1Cur_fits.j0]
    rw [w64 (by omega) (by omega), hn']; exact hE
  | false =>
    obtain ⟨n', rfl⟩ := exists_nat_of_nonneg n0
    obtain ⟨r, a5, s5, hE, h1, h2, h3⟩ := rows n' m' [] a3 s3 (by omega) (by simp; omega) (by simp) (by omega)
    refine ⟨r, a5, s5, Ev.bind0 e1 (Ev.bind0 e2 (Ev.bind0 e3 (Ev.neg (by simp) (Ev.succ ?_)))), h1, by omega, by omega⟩
    simp only [spec_l1Cur_fits.j0]; exact hE

theorem spec_DrawMatchLoads_ev (l : List Int) (hl : bytesOk l) : ∃ fits, Ev (fun k => spec_DrawMatchLoads.f k l) fits ∧ fits.length ≤ 100 := by
  unfold spec_DrawMatchLoads.f spec_DrawGoodFits.f
  obtain ⟨r, a, s, e, h, _⟩ := cur_fits l 0 0 hl (by omega)
  exact ⟨r, Ev.bind (Ev.bind e (Ev.now _)) (Ev.now _), h⟩

theorem spec_DrawIsMatching_ev (l : List Int) (hl : bytesOk l) : ∃ (fits : List (List Bool)) (m : List Int), Ev (fun k => spec_DrawIsMatching.f k l) (fits, m) ∧ fits.length ≤ 100 ∧ m.length ≤ 100 := by
  unfold spec_DrawIsMatching.f
  obtain ⟨r, a, s, e, h, a1, a2⟩ := cur_fits l 0 0 hl (by omega)
  obtain ⟨o, hK, _⟩ := kuhn (fitF r) (nbOf r) r.length
  have hS := spec_MatchLoads_ev r (by omega) hK
  have hml : (matchF r o).1.length ≤ 100 := by
    unfold matchF; split
    · show (matchAt o r.length (nbOf r)).length ≤ 100
      rw [matchAt_len]; exact h
    · simp
  revert hS hml
  generalize matchF r o = R
  obtain ⟨m, b⟩ := R
  intro hS hml
  dsimp only at hml
  by_cases h0 : (m.length : Int) > 0
  · obtain ⟨b, a3, s3, e3, b1, b2⟩ := cur_one l a s 2 hl (by omega)
    cases b with
    | true =>
      obtain ⟨p, a4, s4, e4, p0, p1, p2, p3⟩ := cur_pick l a3 s3 (m.length : Int) hl (by omega)
      obtain ⟨q, a5, s5, e5, q0, q1, q2, q3⟩ := cur_pick l a4 s4 7 hl (by omega)
      refine ⟨r, m.set p.toNat (wrap64 (q - 1)), Ev.bind e (Ev.bind hS (Ev.pos h0 (Ev.bind0 e3 (Ev.succ ?_)))), h, by rw [List.length_set]; exact hml⟩
      simp only [spec_DrawIsMatching.j0]
      exact Ev.pos trivial (Ev.bind0 e4 (Ev.bind0 e5 (Ev.pos p0 (Ev.pos (by dsimp only; omega) (Ev.now _)))))
    | false =>
      refine ⟨r, m, Ev.bind e (Ev.bind hS (Ev.pos h0 (Ev.bind0 e3 (Ev.succ ?_)))), h, hml⟩
      simp only [spec_DrawIsMatching.j0]
      exact Ev.neg (by simp) (Ev.now _)
  · refine ⟨r, m, Ev.bind e (Ev.bind hS (Ev.neg h0 (Ev.succ ?_))), h, hml⟩
    simp only [spec_DrawIsMatching.j0]
    exact Ev.neg (by simp) (Ev.now _)
theorem spec_DrawCountIn_ev (l : List Int) (hl : bytesOk l) : ∃ m, Ev (fun k => spec_DrawCountIn.f k l) m ∧ m.length ≤ 100 := by
  unfold spec_DrawCountIn.f
  obtain ⟨f, m, e, _, h⟩ := spec_DrawIsMatching_ev l hl
  exact ⟨m, Ev.bind e (Ev.now _), h⟩

theorem laws_has_ev (l : List Int) (a : Int) (hl : l.length ≤ 1048576) : Ev (fun k => laws_has.f k l a) (decide (a ∈ l)) := by
  unfold laws_has.f
  have gen : ∀ (d i : Nat), i + d = l.length → Ev (fun k => laws_has.l0 k a l (l.length : Int) (i : Int)) (decide (a ∈ l.drop i)) := by
    intro d
    induction d with
    | zero =>
      intro i hi
      rw [List.drop_of_length_le (by omega)]
      refine Ev.succ ?_; simp only [laws_has.l0]; exact Ev.neg (by omega) (Ev.now _)
    | succ d ih =>
      intro i hi
      have hi' : i < l.length := by omega
      rw [List.drop_eq_getElem_cons hi']
      refine Ev.succ ?_
      simp only [laws_has.l0]
      rw [rd_nat l i hi', w64n hi' (by omega)]
      refine Ev.pos (by omega) (Ev.pos (by omega) (Ev.pos (by omega) (Ev.ite (fun h => ?_) (fun h => ?_))))
      · rw [h]; exact Ev.to (Ev.now _) (decide_eq_true (List.mem_cons_self ..)).symm
      · refine Ev.to (ih (i + 1) (by omega)) ?_
        rw [decide_eq_decide, List.mem_cons]
        exact ⟨.inr, fun h2 => h2.elim (fun h2 => absurd h2.symm h) id⟩
  exact Ev.to (gen l.length 0 (by omega)) (by rw [List.drop_zero])

theorem match_end (l : List Int) (hl : bytesOk l) : Ev (fun k => laws_FnMatch.j7 k l false) true := by
  obtain ⟨z, ez, hz⟩ := spec_DrawCountIn_ev l hl
  refine Ev.succ ?_
  simp only [laws_FnMatch.j7]
  refine Ev.neg (by simp) (Ev.bind ez (Ev.bind (impl_CountIn_ev z (by omega)) (Ev.bind (spec_CountIn_ev z (by omega)) (Ev.pos (by simp) (Ev.to (Ev.now _) (by simp))))))
theorem match_j6 (l : List Int) (hl : bytesOk l) (g : List (List Bool)) (x : List Int) (hx : x.length ≤ 100) : Ev (fun k => laws_FnMatch.j6 k l g x false) true := by
  obtain ⟨z, ez, hz⟩ := spec_DrawCountIn_ev l hl
  refine Ev.succ ?_
  simp only [laws_FnMatch.j6]
  exact Ev.neg (by simp) (Ev.bind ez (Ev.bind (impl_CountIn_ev z (by omega)) (Ev.bind (spec_CountIn_ev z (by omega)) (Ev.pos (by simp) (Ev.to (Ev.now _) (by simp))))))
theorem match_rest (l : List Int) (hl : bytesOk l) : Ev (fun k => laws_FnMatch.j4 k l) true := by
  obtain ⟨g, x, ed, hg, hx⟩ := spec_DrawIsMatching_ev l hl
  refine Ev.succ ?_
  simp only [laws_FnMatch.j4]
  refine Ev.bind ed (Ev.bind (impl_IsMatching_ev g x (by omega) (by omega)) (Ev.bind (spec_IsMatching_ev g x (by omega) (by omega)) (Ev.neg (by simp) (Ev.succ ?_))))
  simp only [laws_FnMatch.j5, bne_self_eq_false, Bool.false_eq_true, if_false]
  unfold isMF
  by_cases hok : fitOk g = true
  · rw [if_pos hok]
    refine Ev.pos (by first | trivial | rfl) ?_
    dsimp only
    by_cases hm : isMat g x = true
    · rw [hm]
      obtain ⟨h8, hb8, hw⟩ := (fitOk_iff g).mp hok
      obtain ⟨o, hK, hk⟩ := kuhn (fitF g) (nbOf g) g.length
      have hI := impl_MatchLoads_ev g (by omega) hK hk
      unfold matchF at hI
      rw [if_pos hok] at hI
      have hX := (isMat_iff g x).mp hm
      have hY := IsM.of_kuhn hk
      obtain ⟨ls, bs, _, _, hR⟩ := reach_both g hok hK hk
      have hle := kuhn_most hk hR hX
      have c1 := hX.countB h8 hb8
      have c2 := hY.countB h8 hb8
      have e1 := impl_CountIn_ev x (by omega)
      have e2 := impl_CountIn_ev (matchAt o g.length (nbOf g)) (by rw [matchAt_len]; omega)
      rw [c1] at e1
      rw [c2] at e2
      refine Ev.succ ?_
      simp only [laws_FnMatch.j6]
      refine Ev.pos (by first | trivial | rfl) (Ev.bind hI (Ev.bind e1 (Ev.bind e2 (Ev.pos (by first | trivial | rfl) (Ev.pos (by first | trivial | rfl) (Ev.pos (by first | trivial | rfl) ?_))))))
      dsimp only
      rw [decide_eq_false (by omega)]
      exact match_end l hl
    · rw [Bool.eq_false_iff.mpr hm]; exact match_j6 l hl g x hx
  · rw [if_neg hok]; exact Ev.neg (by simp) (match_j6 l hl g x hx)
theorem match_bins (l : List Int) (hl : bytesOk l) (f : List (List Bool)) (hg : fitOk f = true) {o : List Int} (hk : Kuhn (fitF f) (nbOf f) f.length o) {ls bs : List Bool} (hR : IsReach (fitF f) (nbOf f) f.length o ls bs) :
    ∀ (d i : Nat) (B : List Int), i + d = (numsOf ls true f.length).length → B.Nodup → (∀ z ∈ B, ∃ y : Nat, z = (y : Int) ∧ y < nbOf f ∧ (rdOf false bs (y : Int) == true) = true) →
      (∀ (q l : Nat), q < i → rd (numsOf ls true f.length) (q : Int) = (l : Int) → ∀ y : Nat, y < nbOf f → fitF f l y = true → (y : Int) ∈ B) →
      Ev (fun k => laws_FnMatch.l0 k l f (numsOf ls true f.length) ((cnt (fun l => decide (rd (matchAt o f.length (nbOf f)) (l : Int) ≥ 0)) f.length : Nat) : Int) B (numsOf ls true f.length) ((numsOf ls true f.length).length : Int) (i : Int)) true := by
  obtain ⟨h8, hb8, hw⟩ := (fitOk_iff f).mp hg
  have hal := numsOf_le ls true f.length
  intro d
  induction d with
  | zero =>
    intro i B hi hN hB hP
    have b1 := nodup_len _ _ _ hN hB
    have b2 : cnt (fun y => rdOf false bs (y : Int) == true) (nbOf f) ≤ B.length := by
      refine Nat.le_trans ?_ (cnt_mem B (nbOf f))
      refine cnt_inj id _ _ (fun y hy hp => ⟨hy, decide_eq_true ?_⟩) (fun _ _ _ _ _ _ e => e)
      obtain ⟨_, m, hm, hf⟩ := (hR.rb y hy).mp (by simpa using hp)
      have hmn := RL.lt hk.rng hm
      have hmem := (numsOf_mem ls true f.length (m : Int)).mpr ⟨m, rfl, hmn, (hR.rl m hmn).mpr hm⟩
      obtain ⟨q, hq, e⟩ := List.getElem_of_mem hmem
      exact hP q m (by omega) (by rw [rd_nat _ q hq, e]) y hy hf
    have b3 := konig_count hk hR
    have b4 := cnt_not (fun y => rdOf false ls (y : Int) == true) f.length
    have b5 : cnt (fun i => !(rdOf false ls (i : Int) == true)) f.length = cnt (fun l => rdOf false ls (l : Int) == false) f.length := cnt_congr fun i _ => by cases rdOf false ls (i : Int) <;> rfl
    have b6 := numsOf_len ls true f.length
    have b7 := cnt_le (fun y => rdOf false bs (y : Int) == true) (nbOf f)
    refine Ev.succ ?_
    simp only [laws_FnMatch.l0]
    refine Ev.neg (by omega) (Ev.pos ?_ (match_rest l hl))
    rw [w64 (by omega) (by omega), w64 (by omega) (by omega)]
    omega
  | succ d ih =>
    intro i B hi hN hB hP
    have hi' : i < (numsOf ls true f.length).length := by omega
    obtain ⟨m, hm, hmn, hml⟩ := (numsOf_mem ls true f.length _).mp (List.getElem_mem hi')
    have hrd : rd (numsOf ls true f.length) (i : Int) = (m : Int) := by rw [rd_nat _ i hi', hm]
    have inner : ∀ (e b : Nat) (B : List Int), b + e = nbOf f → B.Nodup → (∀ z ∈ B, ∃ y : Nat, z = (y : Int) ∧ y < nbOf f ∧ (rdOf false bs (y : Int) == true) = true) →
        (∀ (q l : Nat), q < i → rd (numsOf ls true f.length) (q : Int) = (l : Int) → ∀ y : Nat, y < nbOf f → fitF f l y = true → (y : Int) ∈ B) → (∀ y : Nat, y < b → fitF f m y = true → (y : Int) ∈ B) →
        Ev (fun k => laws_FnMatch.l1 k l f (numsOf ls true f.length) ((cnt (fun l => decide (rd (matchAt o f.length (nbOf f)) (l : Int) ≥ 0)) f.length : Nat) : Int) B (numsOf ls true f.length) ((numsOf ls true f.length).length : Int) (i : Int) (f.getD m []) (nbOf f : Int) (b : Int)) true := by
      intro e
      induction e with
      | zero =>
        intro b B hb hN hB hP hQ
        refine Ev.succ ?_
        simp only [laws_FnMatch.l1]
        rw [w64n hi' (by omega)]
        refine Ev.neg (by omega) (ih (i + 1) B (by omega) hN hB (fun q l2 hq e2 y hy hf => ?_))
        rcases Nat.lt_or_ge q i with h | h
        · exact hP q l2 h e2 y hy hf
        · obtain rfl : q = i := by omega
          obtain rfl : l2 = m := by omega
          exact hQ y (by omega) hf
      | succ e ihe =>
        intro b B hb hN hB hP hQ
        have hb' : b < nbOf f := by omega
        have hBl : B.length ≤ 8 := by have := nodup_len _ _ _ hN hB; have := cnt_le (fun y => rdOf false bs (y : Int) == true) (nbOf f); omega
        refine Ev.succ ?_
        simp only [laws_FnMatch.l1]
        rw [w64n hb' (by omega)]
        refine Ev.pos (by omega) (Ev.pos (by omega) (Ev.pos (by rw [hw m hmn]; omega) (Ev.ite (fun hf => Ev.bind (laws_has_ev B (b : Int) (by omega)) (Ev.ite (fun h1 => ?_) (fun h1 => ?_))) (fun hf => ?_))))
        · have h1 : (b : Int) ∈ B := by simpa using h1
          refine ihe (b + 1) B (by omega) hN hB hP (fun y hy hf2 => ?_)
          rcases Nat.lt_or_ge y b with h | h
          · exact hQ y h hf2
          · obtain rfl : y = b := by omega
            exact h1
        · have h1 : ¬ (b : Int) ∈ B := by simpa using h1
          refine Ev.pos (by omega) (ihe (b + 1) (B ++ [(b : Int)]) (by omega) ?_ (fun z hz => ?_) (fun q l2 hq e2 y hy hf2 => List.mem_append.mpr (.inl (hP q l2 hq e2 y hy hf2))) (fun y hy hf2 => ?_))
          · rw [List.nodup_append]
            exact ⟨hN, by simp, fun a ha c hc e2 => by rw [List.mem_singleton] at hc; subst hc; subst e2; exact h1 ha⟩
          · rcases List.mem_append.mp hz with h | h
            · exact hB z h
            · refine ⟨b, by simpa using h, hb', ?_⟩
              rw [beq_iff_eq]
              exact (hR.rb b hb').mpr ⟨hb', m, (hR.rl m hmn).mp hml, hf⟩
          · rw [List.mem_append]
            rcases Nat.lt_or_ge y b with h | h
            · exact .inl (hQ y h hf2)
            · obtain rfl : y = b := by omega
              exact .inr (by simp)
        · refine ihe (b + 1) B (by omega) hN hB hP (fun y hy hf2 => ?_)
          rcases Nat.lt_or_ge y b with h | h
          · exact hQ y h hf2
          · obtain rfl : y = b := by omega
            exact absurd hf2 hf
    refine Ev.succ ?_
    simp only [laws_FnMatch.l0]
    rw [hrd, fits_rd, hw m hmn]
    exact Ev.pos (by omega) (Ev.pos (by omega) (Ev.pos (by omega) (Ev.pos (by omega) (Ev.pos (by omega) (inner (nbOf f) 0 B (by omega) hN hB hP (fun y hy => by omega))))))
theorem FnMatch : laws_FnMatch.Pure := by
  intro l0 l1 _ hl0 hw0 _ hl1 hw1
  have b0 := bytesOk_of l0 hw0
  have b1 := bytesOk_of l1 hw1
  refine Ev.rounds (g := fun k => laws_FnMatch.f k l0 l1) ?_
  unfold laws_FnMatch.f
  refine Ev.ite (fun _ => Ev.now _) fun hs => ?_
  obtain ⟨f, ef, hf⟩ := spec_DrawMatchLoads_ev l0 b0
  obtain ⟨o, hK, hk⟩ := kuhn (fitF f) (nbOf f) f.length
  have hI := impl_MatchLoads_ev f (by omega) hK hk
  have hS := spec_MatchLoads_ev f (by omega) hK
  obtain ⟨a, ok, hIL, hSL, ha, rfl, hx⟩ := LackOf_ev f (by omega)
  have hml : (matchF f o).1.length ≤ 100 := by
    unfold matchF; split
    · show (matchAt o f.length (nbOf f)).length ≤ 100
      rw [matchAt_len]; exact hf
    · simp
  refine Ev.bind ef (Ev.bind hI (Ev.bind hS (Ev.bind hIL (Ev.bind hSL ?_))))
  simp only [bne_self_eq_false, Bool.false_eq_true, if_false]
  refine Ev.bind (laws_same_ev _ (by omega)) (Ev.pos rfl (Ev.bind (laws_same_ev a (by omega)) (Ev.pos rfl (Ev.bind (impl_GoodFits_ev f (by omega)) ?_))))
  unfold matchF
  by_cases hok : fitOk f = true
  · rw [if_pos hok, hok]
    dsimp only
    obtain ⟨h8, hb8, hw⟩ := (fitOk_iff f).mp hok
    obtain ⟨ls, bs, hR, rfl⟩ := hx hok o hK hk
    have hY := IsM.of_kuhn hk
    have c2 := hY.countB h8 hb8
    have e1 := impl_IsMatching_ev f (matchAt o f.length (nbOf f)) (by omega) (by rw [matchAt_len]; omega)
    unfold isMF at e1
    rw [if_pos hok, (isMat_iff f _).mpr hY] at e1
    have e2 := impl_CountIn_ev (matchAt o f.length (nbOf f)) (by rw [matchAt_len]; omega)
    rw [c2] at e2
    refine Ev.succ ?_
    simp only [laws_FnMatch.j0, bne_self_eq_false, Bool.false_eq_true, if_false]
    refine Ev.pos (by first | trivial | rfl) (Ev.bind e1 (Ev.bind e2 (Ev.pos (by first | trivial | rfl) (Ev.pos (by first | trivial | rfl) (Ev.pos (by first | trivial | rfl) (Ev.succ ?_))))))
    simp only [laws_FnMatch.j1, Bool.not_true, Bool.false_eq_true, if_false]
    exact match_bins l1 b1 f hok hk hR (numsOf ls true f.length).length 0 [] (by omega) (by simp) (by simp) (fun q l hq => by omega)
  · rw [if_neg hok, Bool.eq_false_iff.mpr hok]
    refine Ev.succ ?_
    simp only [laws_FnMatch.j0, bne_self_eq_false, Bool.false_eq_true, if_false]
    exact match_rest l1 b1
end Go.Proofs.Ytpagpbamdpllnaa.Pure
