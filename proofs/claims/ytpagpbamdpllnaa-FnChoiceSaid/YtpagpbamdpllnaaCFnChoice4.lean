/- No counts with as few places gain more than the best (Bellman), for drawn offers: no condition but the statement's own. -/
import Derived.Test.YtpagpbamdpllnaaCFnChoice0
import Derived.Test.YtpagpbamdpllnaaCFnChoice1
import Derived.Test.YtpagpbamdpllnaaCFnChoice2
import Derived.Test.YtpagpbamdpllnaaCFnChoice3
set_option linter.unusedVariables false
set_option linter.unusedSimpArgs false
namespace Go.Proofs.Ytpagpbamdpllnaa.Pure
open Go.RowKit Go.Proofs.Ytpagpbamdpllnaa.Print Go.Proofs.YtpagpbamdpllnaaW.PrintWords Go.Proofs.YtpagpbamdpllnaaW.PrintLast Go.Proofs.YtpagpbamdpllnaaW.PrintMore

theorem Ev.of_eq {α : Type} {g : Nat → Option α} {r : α} (h : ∀ k, g k = some r) : Ev g r := ⟨0, fun k _ => h k⟩
theorem Ev.bind0 {α β : Type} {o : Option α} {f : Nat → α → Option β} {a : α} {r : β} (h : o = some a) (k : Ev (fun n => f n a) r) : Ev (fun n => o.bind (f n)) r := by
  subst h; exact k
theorem Ev.pos {α : Type} {c : Prop} [Decidable c] {g f : Nat → Option α} {r : α} (h : c) (k : Ev g r) : Ev (fun n => if c then g n else f n) r := by
  simpa only [if_pos h] using k
theorem Ev.neg {α : Type} {c : Prop} [Decidable c] {g f : Nat → Option α} {r : α} (h : ¬ c) (k : Ev f r) : Ev (fun n => if c then g n else f n) r := by
  simpa only [if_neg h] using k
theorem Ev.ite {α : Type} {c : Prop} [Decidable c] {g f : Nat → Option α} {r : α} (h : c → Ev g r) (k : ¬ c → Ev f r) : Ev (fun n => if c then g n else f n) r := by
  by_cases hc : c
  · exact Ev.pos hc (h hc)
  · exact Ev.neg hc (k hc)
theorem Ev.step0 {α : Type} {g f : Nat → Option α} {r : α} (k : Ev f r) (h : ∀ k, g (k + 1) = f k) : Ev g r := Ev.step h k
theorem Ev.to {α : Type} {g : Nat → Option α} {r s : α} (k : Ev g r) (h : r = s) : Ev g s := h ▸ k
theorem ev_up {β : Type} (n : Nat) (g : Nat → Nat → Option β) (r : β) (I : Nat → Prop) (h0 : I 0)
    (hend : I n → Ev (fun k => g k n) r) (hstep : ∀ i, i < n → I i → (I (i + 1) → Ev (fun k => g k (i + 1)) r) → Ev (fun k => g k i) r) : Ev (fun k => g k 0) r := by
  have h : ∀ d i, i + d = n → I i → Ev (fun k => g k i) r := by
    intro d
    induction d with
    | zero => intro i hi hI; obtain rfl : i = n := by omega
              exact hend hI
    | succ d ih => intro i hi hI; exact hstep i (by omega) hI fun hI' => ih (i + 1) (by omega) hI'
  exact h n 0 (by omega) h0
theorem w64 {x : Int} (h1 : -9223372036854775808 ≤ x) (h2 : x < 9223372036854775808) : wrap64 x = x := by unfold wrap64; omega
theorem rd_nat (l : List Int) (i : Nat) (h : i < l.length) : rd l (i : Int) = l[i] := by simp [rd, h]
theorem toNat_nat (i : Nat) : ((i : Int)).toNat = i := Int.toNat_natCast i
theorem lt_len {α : Type} {l : List α} {i : Nat} (h : i < l.length) : (i : Int) < (l.length : Int) := by omega
def allIn (l : List Int) (lo hi : Int) : Bool := l.all fun x => decide (lo ≤ x) && decide (x ≤ hi)
theorem allIn_iff (l : List Int) (lo hi : Int) : allIn l lo hi = true ↔ ∀ x ∈ l, lo ≤ x ∧ x ≤ hi := by
  simp [allIn, List.all_eq_true]
theorem all_take_false {α : Type} (l : List α) (p : α → Bool) (i : Nat) (h : i < l.length) (hp : p l[i] = false) : l.all p = false := by
  rw [List.all_eq_false]; exact ⟨l[i], List.getElem_mem h, by simp [hp]⟩
theorem all_take_succ {α : Type} (l : List α) (p : α → Bool) (i : Nat) (h : i < l.length) (ht : (l.take i).all p = true) (hp : p l[i] = true) : (l.take (i + 1)).all p = true := by
  rw [List.take_succ_eq_append_getElem h, List.all_append, ht]; simp [hp]
theorem sum_take_succ (l : List Int) (i : Nat) (h : i < l.length) : (l.take (i + 1)).sum = (l.take i).sum + l[i] := by
  rw [List.take_succ_eq_append_getElem h, List.sum_append]; simp
theorem sum_bounds (l : List Int) (lo hi : Int) (h : ∀ x ∈ l, lo ≤ x ∧ x ≤ hi) : lo * l.length ≤ l.sum ∧ l.sum ≤ hi * l.length := by
  induction l with
  | nil => simp
  | cons a l ih =>
    have h1 := h a (by simp)
    have h2 := ih fun x hx => h x (by simp [hx])
    simp only [List.sum_cons, List.length_cons]
    have e1 : lo * ((l.length + 1 : Nat) : Int) = lo * l.length + lo := by push_cast; rw [Int.mul_add]; simp
    have e2 : hi * ((l.length + 1 : Nat) : Int) = hi * l.length + hi := by push_cast; rw [Int.mul_add]; simp
    rw [e1, e2]; omega
theorem Ev.succ {α : Type} {g : Nat → Option α} {r : α} (h : Ev (fun k => g (k + 1)) r) : Ev g r := Ev.step (fun _ => rfl) h
theorem exists_nat_of_nonneg {x : Int} (h : 0 ≤ x) : ∃ n : Nat, x = n := ⟨x.toNat, by omega⟩

def bytesOk (l : List Int) : Prop := ∀ x ∈ l, 0 ≤ x ∧ x ≤ 255
theorem wf_u8 {x : Int} (h : (Lit.int .u8 x).wf = true) : 0 ≤ x ∧ x ≤ 255 := by
  have h' : decide (IntKind.u8.min ≤ x) && decide (x ≤ IntKind.u8.max) := h
  simp only [Bool.and_eq_true, decide_eq_true_eq] at h'
  have e1 : IntKind.u8.min = 0 := by decide
  have e2 : IntKind.u8.max = 255 := by decide
  omega
theorem bytesOk_of (l : List Int) (h : ∀ x ∈ l, (Lit.int .u8 x).wf = true) : bytesOk l := fun x hx => wf_u8 (h x hx)
theorem u64_range (x : Int) : 0 ≤ IntKind.u64.wrap x ∧ IntKind.u64.wrap x < 18446744073709551616 := by
  have e : IntKind.u64.wrap x = x % 18446744073709551616 := by simp [IntKind.wrap, IntKind.bits, IntKind.signed]
  rw [e]; omega
theorem and_255 (x : Int) (h0 : 0 ≤ x) (h1 : x < 18446744073709551616) : 0 ≤ Go.bits .and .u64 x 255 ∧ Go.bits .and .u64 x 255 ≤ 255 := by
  obtain ⟨n, rfl⟩ := exists_nat_of_nonneg h0
  have e : Go.bits .and .u64 (n : Int) ((255 : Nat) : Int) = ((n &&& 255 : Nat) : Int) := u64_and_nat n 255 (by omega) (by omega)
  have h2 : n &&& 255 ≤ 255 := Nat.and_le_right
  have e' : Go.bits .and .u64 (n : Int) 255 = ((n &&& 255 : Nat) : Int) := e
  rw [e']; omega
theorem rd_mem_or (l : List Int) (i : Int) (h0 : 0 ≤ i) (h : i < l.length) : rd l i ∈ l := by
  obtain ⟨n, rfl⟩ := exists_nat_of_nonneg h0
  rw [rd_nat l n (by omega)]; exact List.getElem_mem _

theorem cur_next (l : List Int) (a s : Int) (hl : bytesOk l) (ha : 0 ≤ a ∧ a ≤ 4611686018427387904) :
    ∃ b s', spec_l1Cur_next.f l a s = some (b, a + 1, s') ∧ 0 ≤ b ∧ b ≤ 255 := by
  have hmask : ∀ y : Int, 0 ≤ wrap64 (Go.bits .and .u64 ((IntKind.u64.wrap y) / 1099511627776) 255) ∧ wrap64 (Go.bits .and .u64 ((IntKind.u64.wrap y) / 1099511627776) 255) ≤ 255 := fun y => by
    have h1 := u64_range y
    have h2 := and_255 ((IntKind.u64.wrap y) / 1099511627776) (by omega) (by omega)
    rw [w64 (by omega) (by omega)]; exact h2
  unfold spec_l1Cur_next.f
  rw [w64 (x := a + 1) (by omega) (by omega)]
  by_cases h1 : a < (l.length : Int)
  · have hb := hl _ (rd_mem_or l a ha.1 h1)
    rw [if_pos h1, if_pos ha.1]
    by_cases h2 : a + 1 ≤ (l.length : Int)
    · rw [if_pos h2]; exact ⟨_, _, rfl, by rw [w64 (by omega) (by omega)]; exact hb⟩
    · rw [if_neg h2]; exact ⟨_, _, rfl, hmask _⟩
  · rw [if_neg h1]
    by_cases h2 : a + 1 ≤ (l.length : Int)
    · rw [if_pos h2]; exact ⟨_, _, rfl, by omega⟩
    · rw [if_neg h2]; exact ⟨_, _, rfl, hmask _⟩

theorem cur_pick (l : List Int) (a s n : Int) (hl : bytesOk l) (ha : 0 ≤ a ∧ a ≤ 4611686018427387900) :
    ∃ r a' s', spec_l1Cur_pick.f l a s n = some (r, a', s') ∧ 0 ≤ r ∧ (r < n ∨ n ≤ 1 ∧ r = 0) ∧ a ≤ a' ∧ a' ≤ a + 2 := by
  unfold spec_l1Cur_pick.f
  by_cases h : n ≤ 1
  · rw [if_pos h]; exact ⟨0, a, s, rfl, by omega, .inr ⟨h, rfl⟩, by omega, by omega⟩
  · rw [if_neg h]
    obtain ⟨b, s1, e1, hb⟩ := cur_next l a s hl (by omega)
    rw [e1]; simp only [Option.bind_some]
    by_cases h2 : n > 200
    · rw [if_pos h2]
      obtain ⟨c, s2, e2, hc⟩ := cur_next l (a + 1) s1 hl (by omega)
      rw [e2]; simp only [Option.bind_some]; rw [if_neg (by omega), w64 (x := b * 256) (by omega) (by omega), w64 (by omega) (by omega)]
      exact ⟨_, _, _, rfl, Int.tmod_nonneg _ (by omega), .inl (Int.tmod_lt_of_pos _ (by omega)), by omega, by omega⟩
    · rw [if_neg h2, if_neg (by omega)]
      exact ⟨_, _, _, rfl, Int.tmod_nonneg _ (by omega), .inl (Int.tmod_lt_of_pos _ (by omega)), by omega, by omega⟩

theorem cur_one (l : List Int) (a s n : Int) (hl : bytesOk l) (ha : 0 ≤ a ∧ a ≤ 4611686018427387900) :
    ∃ r a' s', spec_l1Cur_one.f l a s n = some (r, a', s') ∧ a ≤ a' ∧ a' ≤ a + 2 := by
  unfold spec_l1Cur_one.f
  obtain ⟨r, a', s', e, h0, h1, h2, h3⟩ := cur_pick l a s n hl ha
  rw [e]; exact ⟨_, _, _, rfl, h2, h3⟩

theorem cur_among (l : List Int) (a s : Int) (l1 : List Int) (hl : bytesOk l) (ha : 0 ≤ a ∧ a ≤ 4611686018427387900) (h1 : 0 < l1.length) :
    ∃ r a' s', spec_l1Cur_among.f l a s l1 = some (r, a', s') ∧ r ∈ l1 ∧ a ≤ a' ∧ a' ≤ a + 2 := by
  unfold spec_l1Cur_among.f
  obtain ⟨r, a', s', e, h2, h3, h4, h5⟩ := cur_pick l a s (l1.length : Int) hl ha
  have h6 : r < (l1.length : Int) := by omega
  rw [e]; simp only [Option.bind_some]; rw [if_pos h2, if_pos h6]
  exact ⟨_, _, _, rfl, rd_mem_or l1 r h2 h6, h4, h5⟩

theorem spec_l1In_eq (n lo hi : Int) : spec_l1In.f n lo hi = some (decide (lo ≤ n) && decide (n ≤ hi)) := by
  unfold spec_l1In.f
  by_cases h : n ≥ lo
  · rw [if_pos h, decide_eq_true (show lo ≤ n from h)]; simp
  · rw [if_neg h, decide_eq_false (show ¬ lo ≤ n from h)]; simp

theorem impl_within_eq (n lo hi : Int) : impl_within.f n lo hi = some (decide (lo ≤ n) && decide (n ≤ hi)) := by
  unfold impl_within.f
  by_cases h : n ≥ lo
  · rw [if_pos h, decide_eq_true (show lo ≤ n from h)]; simp
  · rw [if_neg h, decide_eq_false (show ¬ lo ≤ n from h)]; simp

theorem spec_l1All_ev (l : List Int) (lo hi : Int) (hl : l.length < 4611686018427387904) : Ev (fun k => spec_l1All.f k l lo hi) (allIn l lo hi) := by
  unfold spec_l1All.f
  refine ev_up l.length (fun k i => spec_l1All.l0 k lo hi l (l.length : Int) (i : Int)) _ (fun i => allIn (l.take i) lo hi = true) (by simp [allIn]) ?_ ?_
  · intro hI
    refine Ev.step0 (Ev.of_eq fun _ => rfl) fun k => ?_
    simp only [spec_l1All.l0]; rw [if_neg (by omega)]
    rw [List.take_length] at hI; rw [hI]
  · intro i hi' hI hn
    cases hb : (decide (lo ≤ l[i]) && decide (l[i] ≤ hi)) with
    | true =>
      refine Ev.step0 (hn (all_take_succ l _ i hi' hI hb)) fun k => ?_
      simp only [spec_l1All.l0]; rw [if_pos (lt_len hi'), if_pos (by omega), if_pos (lt_len hi'), rd_nat l i hi', spec_l1In_eq, hb]
      simp only [Option.bind_some, if_true]; rw [w64 (by omega) (by omega)]; rfl
    | false =>
      refine Ev.step0 (Ev.of_eq fun _ => rfl) fun k => ?_
      simp only [spec_l1All.l0]; rw [if_pos (lt_len hi'), if_pos (by omega), if_pos (lt_len hi'), rd_nat l i hi', spec_l1In_eq, hb]
      simp only [Option.bind_some]; rw [if_neg (by decide)]
      rw [show allIn l lo hi = false from all_take_false l _ i hi' hb]

theorem impl_allWithin_ev (l : List Int) (lo hi : Int) (hl : l.length < 4611686018427387904) : Ev (fun k => impl_allWithin.f k l lo hi) (allIn l lo hi) := by
  unfold impl_allWithin.f sl1_ContainsFunc.f sl3_IndexFunc.f
  have key : ∃ j : Int, decide (j ≥ 0) = !(allIn l lo hi) ∧ Ev (fun k => sl3_IndexFunc.l0 k l (l.length : Int) 0 lo hi) j := by
    have hc : ∀ x : Int, impl_allWithin_1.f x lo hi = some (!(decide (lo ≤ x) && decide (x ≤ hi))) := fun x => by
      unfold impl_allWithin_1.f; rw [impl_within_eq]; rfl
    cases ha : allIn l lo hi with
    | true =>
      refine ⟨-1, by decide, ?_⟩
      refine ev_up l.length (fun k i => sl3_IndexFunc.l0 k l (l.length : Int) (i : Int) lo hi) _ (fun _ => True) trivial ?_ ?_
      · intro _
        refine Ev.step0 (Ev.of_eq fun _ => rfl) fun k => ?_
        simp only [sl3_IndexFunc.l0]; rw [if_neg (by omega)]
      · intro i hi' _ hn
        have hb := (allIn_iff l lo hi).mp ha l[i] (List.getElem_mem hi')
        refine Ev.step0 (hn trivial) fun k => ?_
        simp only [sl3_IndexFunc.l0]; rw [if_pos (lt_len hi'), if_pos (by omega), if_pos (lt_len hi'), rd_nat l i hi', hc, decide_eq_true hb.1, decide_eq_true hb.2]
        simp only [Option.bind_some]; rw [if_neg (by decide), w64 (by omega) (by omega)]; rfl
    | false =>
      have : ∃ i : Nat, i < l.length ∧ Ev (fun k => sl3_IndexFunc.l0 k l (l.length : Int) 0 lo hi) (i : Int) := by
        obtain ⟨i, hi', hp, hlt⟩ : ∃ i : Nat, ∃ h : i < l.length, (decide (lo ≤ l[i]) && decide (l[i] ≤ hi)) = false ∧ ∀ j, ∀ hj : j < i, (decide (lo ≤ l[j]) && decide (l[j] ≤ hi)) = true := by
          have h1 : ∃ i : Nat, ∃ h : i < l.length, (decide (lo ≤ l[i]) && decide (l[i] ≤ hi)) = false := by
            unfold allIn at ha
            rw [List.all_eq_false] at ha
            obtain ⟨x, hx, hp⟩ := ha
            obtain ⟨i, hi', rfl⟩ := List.getElem_of_mem hx
            exact ⟨i, hi', by simpa using hp⟩
          obtain ⟨m, hm, hmin⟩ := exists_least h1
          obtain ⟨hm1, hm2⟩ := hm
          refine ⟨m, hm1, hm2, fun j hj => ?_⟩
          cases hq : (decide (lo ≤ l[j]) && decide (l[j] ≤ hi)) with
          | true => rfl
          | false => have := hmin j ⟨by omega, hq⟩; omega
        refine ⟨i, hi', ?_⟩
        refine ev_up i (fun k i => sl3_IndexFunc.l0 k l (l.length : Int) (i : Int) lo hi) _ (fun _ => True) trivial ?_ ?_
        · intro _
          refine Ev.step0 (Ev.of_eq fun _ => rfl) fun k => ?_
          simp only [sl3_IndexFunc.l0]; rw [if_pos (lt_len hi'), if_pos (by omega), if_pos (lt_len hi'), rd_nat l i hi', hc, hp]
          simp
        · intro j hj _ hn
          have hj' : j < l.length := by omega
          refine Ev.step0 (hn trivial) fun k => ?_
          simp only [sl3_IndexFunc.l0]; rw [if_pos (lt_len hj'), if_pos (by omega), if_pos (lt_len hj'), rd_nat l j hj', hc, hlt j hj]
          simp only [Option.bind_some]; rw [if_neg (by decide), w64 (by omega) (by omega)]; rfl
      obtain ⟨i, _, hi2⟩ := this
      exact ⟨i, by simp, hi2⟩
  obtain ⟨j, hj, hev⟩ := key
  refine Ev.to (Ev.bind (Ev.bind hev (Ev.now _)) (Ev.now _)) ?_
  rw [hj]; simp

def lowNum (a b : Int) : Int := if b < 0 then Int.tdiv (-a) (Int.gcd a b) else Int.tdiv a (Int.gcd a b)
def lowDen (a b : Int) : Int := if b < 0 then Int.tdiv (-b) (Int.gcd a b) else Int.tdiv b (Int.gcd a b)
def goodFrac (a b : Int) : Bool := decide (-1000000000 ≤ a) && decide (a ≤ 1000000000) && (decide (1 ≤ b) && decide (b ≤ 1000000000)) && decide (Int.gcd a b = 1)

theorem mx_max (a b : Int) : mx a b = max a b := by unfold mx; split <;> omega
theorem mn_min (a b : Int) : mn a b = min a b := by unfold mn; split <;> omega
theorem w64n {i n : Nat} (h : i < n) (hn : n ≤ 4611686018427387904) : wrap64 ((i : Int) + 1) = ((i + 1 : Nat) : Int) := by rw [w64 (by omega) (by omega)]; rfl
theorem ev_indexFunc {α : Type} (l : List α) (rdx : Int → α) (hr : ∀ (i : Nat) (h : i < l.length), rdx (i : Int) = l[i]) (c : Nat → α → Option Bool) (p : α → Bool)
    (hc : ∀ x ∈ l, Ev (fun k => c k x) (p x)) (g : Nat → Int → Option Int)
    (hg : ∀ k i, g (k + 1) i = if i < (l.length : Int) then (if 0 ≤ i then (if i < (l.length : Int) then ((c k (rdx i)).bind fun t => if t = true then some i else g k (wrap64 (i + 1))) else none) else none) else some (-1))
    (hl : l.length ≤ 4611686018427387904) : ∃ j : Int, decide (j ≥ 0) = l.any p ∧ Ev (fun k => g k 0) j := by
  have gen : ∀ (d i : Nat), i + d = l.length → ∃ j : Int, decide (j ≥ 0) = (l.drop i).any p ∧ Ev (fun k => g k (i : Int)) j := by
    intro d
    induction d with
    | zero =>
      intro i hi
      refine ⟨-1, by rw [List.drop_of_length_le (by omega)]; rfl, Ev.step0 (Ev.of_eq fun _ => rfl) fun k => ?_⟩
      rw [hg, if_neg (by omega)]
    | succ d ih =>
      intro i hi
      have hi' : i < l.length := by omega
      have hd : (l.drop i).any p = (p l[i] || (l.drop (i + 1)).any p) := by rw [List.drop_eq_getElem_cons hi', List.any_cons]
      have hcx := hc l[i] (List.getElem_mem hi')
      cases hp : p l[i] with
      | true =>
        refine ⟨i, by rw [hd, hp]; simp, Ev.step (fun k => hg k _) (Ev.pos (by omega) (Ev.pos (by omega) (Ev.pos (by omega) ?_)))⟩
        rw [hr i hi']
        exact Ev.bind hcx (Ev.pos hp (Ev.now _))
      | false =>
        obtain ⟨j, hj, hev⟩ := ih (i + 1) (by omega)
        refine ⟨j, by rw [hd, hp, hj]; rfl, Ev.step (fun k => hg k _) (Ev.pos (by omega) (Ev.pos (by omega) (Ev.pos (by omega) ?_)))⟩
        rw [hr i hi', w64 (by omega) (by omega)]
        exact Ev.bind hcx (Ev.neg (by rw [hp]; simp) hev)
  have := gen l.length 0 (by omega)
  simpa using this
theorem any_not_all {α : Type} (l : List α) (p : α → Bool) : l.any (fun x => !p x) = !(l.all p) := by
  induction l with
  | nil => rfl
  | cons a l ih => simp [ih]
def wayOf (a b c d : Int) : Int := if a = c then ((b - d).natAbs : Int) else 3 * ((a - c).natAbs : Int) + (if 40 - (b + d) < b + d then 40 - (b + d) else b + d)
def spotOk (a b : Int) : Bool := (decide (0 ≤ a) && decide (a ≤ 9)) && (decide (0 ≤ b) && decide (b ≤ 20))

theorem laws_sameInts_ev (a b : List Int) (hl : a.length ≤ 4611686018427387904) : Ev (fun k => laws_sameInts.f k a b) (decide (a = b)) := by
  unfold laws_sameInts.f
  refine Ev.ite (fun h => ?_) (fun h => ?_)
  · have hlen : a.length = b.length := by omega
    have gen : ∀ (d i : Nat), i + d = a.length → Ev (fun k => laws_sameInts.l0 k a b (a.length : Int) (i : Int)) (decide (a.drop i = b.drop i)) := by
      intro d
      induction d with
      | zero =>
        intro i hi
        rw [List.drop_of_length_le (by omega), List.drop_of_length_le (by omega)]
        refine Ev.succ ?_
        simp only [laws_sameInts.l0]; exact Ev.neg (by omega) (by simpa using Ev.now true)
      | succ d ih =>
        intro i hi
        have hi' : i < a.length := by omega
        have hi2 : i < b.length := by omega
        rw [List.drop_eq_getElem_cons hi', List.drop_eq_getElem_cons hi2]
        refine Ev.succ ?_
        simp only [laws_sameInts.l0]
        refine Ev.pos (by omega) (Ev.pos (by omega) (Ev.pos (by omega) (Ev.pos (by omega) ?_)))
        rw [rd_nat a i hi', rd_nat b i hi2, w64n hi' (by omega)]
        refine Ev.ite (fun h => ?_) (fun h => ?_)
        · have e : decide (a[i] :: a.drop (i + 1) = b[i] :: b.drop (i + 1)) = decide (a.drop (i + 1) = b.drop (i + 1)) := by
            rw [decide_eq_decide, h]; exact ⟨fun h => (List.cons.inj h).2, fun h => by rw [h]⟩
          rw [e]; exact ih (i + 1) (by omega)
        · have e : decide (a[i] :: a.drop (i + 1) = b[i] :: b.drop (i + 1)) = false := by
            rw [decide_eq_false_iff_not]; intro h2; injection h2 with h3; exact h h3
          rw [e]; exact Ev.now _
    simpa using gen a.length 0 (by omega)
  · have e : decide (a = b) = false := by rw [decide_eq_false_iff_not]; rintro rfl; exact h rfl
    rw [e]; exact Ev.now _
theorem laws_same_ev (a : List Int) (hl : a.length ≤ 4611686018427387904) : Ev (fun k => laws_sameInts.f k a a) true := Ev.to (laws_sameInts_ev a a hl) (by simp)

def flowOk (flow : List Int) : Bool := decide (1 ≤ (flow.length : Int)) && decide ((flow.length : Int) ≤ 8) && allIn flow 1 30
def countsOk (flow counts : List Int) : Bool := flowOk flow && (decide ((counts.length : Int) = (flow.length : Int)) && (allIn counts 1 40 && decide (counts.sum ≤ 40)))
def gn (f c : Int) : Int := lowNum f (c * (c + 1))
def gd (f c : Int) : Int := lowDen f (c * (c + 1))
def bestUp (lt : Nat → Nat → Bool) : Nat → Nat
  | 0 => 0
  | i + 1 => if lt (bestUp lt i) i = true then i else bestUp lt i
def gainLt (flow counts : List Int) (b i : Nat) : Bool := decide (gn flow[b]! counts[b]! * gd flow[i]! counts[i]! < gn flow[i]! counts[i]! * gd flow[b]! counts[b]!)
def nextOf (flow counts : List Int) : Nat := bestUp (gainLt flow counts) flow.length

def fits (p : Int × Int) : Int × Int × Bool := if goodFrac p.1 p.2 = true then (p.1, p.2, true) else (0, 0, false)
def bothGood (a b c d : Int) : Bool := goodFrac a b && goodFrac c d
def addF (a b c d : Int) : Int × Int × Bool := if bothGood a b c d = true then fits (lowNum (a * d + c * b) (b * d), lowDen (a * d + c * b) (b * d)) else (0, 0, false)
def subF (a b c d : Int) : Int × Int × Bool := if bothGood a b c d = true then fits (lowNum (a * d - c * b) (b * d), lowDen (a * d - c * b) (b * d)) else (0, 0, false)
def mulF (a b c d : Int) : Int × Int × Bool := if bothGood a b c d = true then fits (lowNum (a * c) (b * d), lowDen (a * c) (b * d)) else (0, 0, false)
def divF (a b c d : Int) : Int × Int × Bool := if bothGood a b c d = true ∧ c ≠ 0 then fits (lowNum (a * d) (b * c), lowDen (a * d) (b * c)) else (0, 0, false)
def lessF (a b c d : Int) : Bool × Bool := if bothGood a b c d = true then (decide (a * d < c * b), true) else (false, false)
def floorF (a b : Int) : Int × Bool := if goodFrac a b = true then (a / b, true) else (0, false)

def sumF : List (Int × Int) → Int × Int → Int × Int × Bool
  | [], s => (s.1, s.2, true)
  | x :: l, s => if (addF s.1 s.2 x.1 x.2).2.2 = true then sumF l ((addF s.1 s.2 x.1 x.2).1, (addF s.1 s.2 x.1 x.2).2.1) else (0, 0, false)

def sumsF (l : List (Int × Int)) : Int × Int × Bool := if l.length ≤ 50 then sumF l (0, 1) else (0, 0, false)

def isqUp (n : Int) : Nat → Int
  | 0 => 0
  | k + 1 => if ((k : Int) + 1) * ((k : Int) + 1) ≤ n then (k : Int) + 1 else isqUp n k
def isq (n : Int) : Int := isqUp n n.toNat
def goodB (a b c d : Int) : Bool := bothGood a b c d && (decide (0 ≤ a) && !decide (c * b < a * d))

def withinB (x y a b c d : Int) : Bool × Bool := if goodFrac x y = true ∧ goodB a b c d = true then (!decide (x * b < a * y) && !decide (c * y < x * d), true) else (false, false)

def rootB (n p : Int) : Int × Int × Int × Int × Bool :=
  if (0 ≤ n ∧ n ≤ 1000000000000) ∧ (1 ≤ p ∧ p ≤ 1000) ∧ n ≤ 1000000000000 / (p * p) then
    (lowNum (isq (n * p * p)) p, lowDen (isq (n * p * p)) p, lowNum (if isq (n * p * p) * isq (n * p * p) = n * p * p then isq (n * p * p) else isq (n * p * p) + 1) p, lowDen (if isq (n * p * p) * isq (n * p * p) = n * p * p then isq (n * p * p) else isq (n * p * p) + 1) p, true)
  else (0, 0, 0, 0, false)
def losOf (l : List S44) : List (Int × Int) := l.map fun b => (b.f0.f0, b.f0.f1)
def hisOf (l : List S44) : List (Int × Int) := l.map fun b => (b.f1.f0, b.f1.f1)
def sumB (l : List S44) : Int × Int × Int × Int × Bool :=
  if l.length ≤ 20 ∧ (l.all fun b => goodB b.f0.f0 b.f0.f1 b.f1.f0 b.f1.f1) = true ∧ (sumF (losOf l) (0, 1)).2.2 = true ∧ (sumF (hisOf l) (0, 1)).2.2 = true then
    ((sumF (losOf l) (0, 1)).1, (sumF (losOf l) (0, 1)).2.1, (sumF (hisOf l) (0, 1)).1, (sumF (hisOf l) (0, 1)).2.1, true)
  else (0, 0, 0, 0, false)

def csq (n : Int) : Int := if isq n * isq n = n then isq n else isq n + 1
def rootsL (flow : List Int) (p : Int) : Int := (flow.map fun f => isq (f * p * p)).sum
def rootsH (flow : List Int) (p : Int) : Int := (flow.map fun f => csq (f * p * p)).sum
def leastB (flow : List Int) (room p : Int) : Int × Int × Int × Int × Bool :=
  if flowOk flow = true ∧ (8 ≤ room ∧ room ≤ 1000) ∧ (1 ≤ p ∧ p ≤ 100) then
    (lowNum (rootsL flow p * rootsL flow p) (p * p * room), lowDen (rootsL flow p * rootsL flow p) (p * p * room), lowNum (rootsH flow p * rootsH flow p) (p * p * room), lowDen (rootsH flow p * rootsH flow p) (p * p * room), true)
  else (0, 0, 0, 0, false)
def bndOf (p f : Int) : S44 := ⟨⟨lowNum (isq (f * p * p)) p, lowDen (isq (f * p * p)) p⟩, ⟨lowNum (csq (f * p * p)) p, lowDen (csq (f * p * p)) p⟩⟩

def bump (flow counts : List Int) : List Int := counts.set (nextOf flow counts) (counts[nextOf flow counts]! + 1)
def shareUp (flow : List Int) : Nat → List Int
  | 0 => List.replicate flow.length 1
  | i + 1 => bump flow (shareUp flow i)
def shareOf (flow : List Int) (places : Int) : List Int := shareUp flow (places - flow.length).toNat
def kindsOk (flow : List Int) (places : Int) : Bool := flowOk flow && (decide ((flow.length : Int) ≤ places) && decide (places ≤ 40))

def upFrom (k : Int) (n : Nat) : List Int := (List.range n).map fun (j : Nat) => k + (j : Int)

def jn (E : List (Nat × Nat)) (T : Nat → Bool) : Nat → Nat → Prop
  | 0, u => T u = true
  | n + 1, u => T u = true ∨ ∃ v, ((u, v) ∈ E ∨ (v, u) ∈ E) ∧ jn E T n v
def Jn (E : List (Nat × Nat)) (T : Nat → Bool) (u : Nat) : Prop := ∃ n, jn E T n u
theorem Jn.base {E : List (Nat × Nat)} {T : Nat → Bool} {u : Nat} (h : T u = true) : Jn E T u := ⟨0, h⟩
theorem Jn.step {E : List (Nat × Nat)} {T : Nat → Bool} {u v : Nat} (h : (u, v) ∈ E ∨ (v, u) ∈ E) (k : Jn E T v) : Jn E T u := by
  obtain ⟨n, hn⟩ := k; exact ⟨n + 1, .inr ⟨v, h, hn⟩⟩
theorem Jn.rule {E : List (Nat × Nat)} {T : Nat → Bool} {P : Nat → Prop} (hb : ∀ u, T u = true → P u)
    (hs : ∀ u v, ((u, v) ∈ E ∨ (v, u) ∈ E) → Jn E T v → P v → P u) {u : Nat} (h : Jn E T u) : P u := by
  obtain ⟨n, hn⟩ := h
  induction n generalizing u with
  | zero => exact hb u hn
  | succ n ih =>
    rcases hn with h | ⟨v, h, hv⟩
    · exact hb u h
    · exact hs u v h ⟨n, hv⟩ (ih hv)
theorem Jn.trans {E E' : List (Nat × Nat)} {T T' : Nat → Bool} {u : Nat} (h : Jn E T u) (k : ∀ x, T x = true → Jn E' T' x) (hE : ∀ e ∈ E, e ∈ E') : Jn E' T' u :=
  h.rule k fun _ _ he _ p => Jn.step (he.imp (hE _) (hE _)) p
theorem Jn.move {E : List (Nat × Nat)} {J : Nat → Bool} {v x s : Nat} {e : Nat × Nat} (hxs : e = (x, s) ∨ e = (s, x)) (hs : J s = true)
    (hj : Jn (E.erase e) (fun u => decide (u = v)) x) {u : Nat} (h : Jn E J u) : Jn (E.erase e) (fun y => J y || decide (y = v)) u := by
  have hx : Jn (E.erase e) (fun y => J y || decide (y = v)) x := hj.trans (fun y hy => Jn.base (by simp at hy; simp [hy])) (fun _ h => h)
  have hss : Jn (E.erase e) (fun y => J y || decide (y = v)) s := Jn.base (by simp [hs])
  refine h.rule (P := fun u => Jn (E.erase e) (fun y => J y || decide (y = v)) u) (fun u hu => Jn.base (by simp [hu])) ?_
  intro u w hf _ ih
  by_cases h1 : (u, w) = e
  · rcases hxs with h2 | h2 <;> rw [h2] at h1 <;> injection h1 with h3 h4
    · rw [h3]; exact hx
    · rw [h3]; exact hss
  · by_cases h2 : (w, u) = e
    · rcases hxs with h3 | h3 <;> rw [h3] at h2 <;> injection h2 with h4 h5
      · rw [h5]; exact hss
      · rw [h5]; exact hx
    · refine Jn.step (v := w) ?_ ih
      rcases hf with hf | hf
      · exact .inl ((List.mem_erase_of_ne h1).mpr hf)
      · exact .inr ((List.mem_erase_of_ne h2).mpr hf)
def sumW (w : Nat → Nat → Int) (E : List (Nat × Nat)) : Int := (E.map fun e => w e.1 e.2).sum
def nearUp (w : Nat → Nat → Int) (J : Nat → Bool) (i : Nat) : Nat → Option Nat
  | 0 => none
  | k + 1 => match nearUp w J i k with
    | none => if J k = true then some k else none
    | some m => if J k = true ∧ w i k < w i m then some k else some m
def pickUp (w : Nat → Nat → Int) (J : Nat → Bool) (n : Nat) : Nat → Option (Nat × Nat)
  | 0 => none
  | i + 1 => match pickUp w J n i with
    | none => if J i = true then none else (nearUp w J i n).map fun m => (i, m)
    | some p => if J i = true then some p else match nearUp w J i n with
      | none => some p
      | some m => if w i m < w p.1 p.2 then some (i, m) else some p

def updP (w : Nat → Nat → Int) (J : Nat → Bool) (i : Nat) (p : Option (Nat × Nat)) (m : Option Nat) : Option (Nat × Nat) :=
  if J i = true then p else match m with
    | none => p
    | some m => match p with
      | none => some (i, m)
      | some q => if w i m < w q.1 q.2 then some (i, m) else some q
def jd (J : List Bool) (m : Nat) : Bool := rdOf false J (m : Int)
def primSt (w : Nat → Nat → Int) (n : Nat) : Nat → List Int × Int × List Bool
  | 0 => (List.replicate n (-1), 0, (List.replicate n false).set 0 true)
  | t + 1 => match pickUp w (jd (primSt w n t).2.2) n n with
    | none => primSt w n t
    | some q => ((primSt w n t).1.set q.1 (q.2 : Int), (primSt w n t).2.1 + w q.1 q.2, (primSt w n t).2.2.set q.1 true)
def sumTo (f : Nat → Int) : Nat → Int
  | 0 => 0
  | n + 1 => sumTo f n + f n
structure PrimOk (w : Nat → Nat → Int) (n : Nat) (E : List (Nat × Nat)) (t : Nat) (s : List Int × Int × List Bool) : Prop where
  l1 : s.1.length = n
  l2 : s.2.2.length = n
  cnt : s.2.2.count true = t + 1
  j0 : jd s.2.2 0 = true
  o0 : rd s.1 0 = -1
  up : ∀ i, i < n → i ≠ 0 → jd s.2.2 i = true → 0 ≤ rd s.1 i ∧ rd s.1 i < n ∧ rd s.1 i ≠ i
  all : ∀ i, i < n → -1 ≤ rd s.1 i ∧ rd s.1 i < n
  sum : s.2.1 = sumTo (fun i => if jd s.2.2 i = true ∧ i ≠ 0 then w i (rd s.1 i).toNat else 0) n
  pot : ∃ E', (∀ e ∈ E', e ∈ E) ∧ sumW w E' + s.2.1 ≤ sumW w E ∧ ∀ u, u < n → Jn E' (jd s.2.2) u

theorem ev_all {β : Type} (n : Nat) (P : Nat → Bool) (g : Nat → Nat → Option β) (yes no : β)
    (hs : ∀ r i, i < n → P i = true → Ev (fun k => g k (i + 1)) r → Ev (fun k => g k i) r) (hno : ∀ i, i < n → P i = false → Ev (fun k => g k i) no)
    (hyes : (∀ i, i < n → P i = true) → Ev (fun k => g k n) yes) (b : Bool) (hb : b = true ↔ ∀ i, i < n → P i = true) : Ev (fun k => g k 0) (if b = true then yes else no) := by
  by_cases h : ∀ i, i < n → P i = true
  · rw [if_pos (hb.mpr h)]
    exact ev_up n g yes (fun _ => True) trivial (fun _ => hyes h) fun i hi _ hn => hs _ i hi (h i hi) (hn trivial)
  · rw [if_neg (fun hx => h (hb.mp hx))]
    have h1 : ∃ i, i < n ∧ P i = false := by
      refine Classical.byContradiction fun hc => h fun i hi => ?_
      cases hp : P i with
      | true => rfl
      | false => exact absurd ⟨i, hi, hp⟩ hc
    obtain ⟨m, hm, hmin⟩ := exists_least h1
    refine ev_up m g no (fun _ => True) trivial (fun _ => hno m hm.1 hm.2) fun i hi _ hn => hs _ i (by omega) ?_ (hn trivial)
    cases hp : P i with
    | true => rfl
    | false => have := hmin i ⟨by omega, hp⟩; omega
def allTo (P : Nat → Bool) (n : Nat) : Bool := (List.range n).all P
theorem allTo_iff (P : Nat → Bool) (n : Nat) : allTo P n = true ↔ ∀ i, i < n → P i = true := by simp [allTo, List.all_eq_true]

def KK : Int := 219060189739591200
def kd (c : Int) : Int := KK / c
def gK (c : Int) : Int := kd c - kd (c + 1)
def Stab (n : Nat) (f c : Nat → Int) : Prop := ∀ i k, i < n → k < n → i ≠ k → 1 < c i → f k * gK (c k) ≤ f i * gK (c i - 1)
def costN (n : Nat) (f c : Nat → Int) : Int := sumTo (fun i => f i * kd (c i)) n
def tK (x : Int × Int) : Int := x.1 * KK / x.2
def isT (x : Int × Int) (t : Int) : Prop := 1 ≤ x.2 ∧ x.1 * KK = x.2 * t
def ratioL (flow counts : List Int) : List (Int × Int) := (List.range flow.length).map fun (j : Nat) => (lowNum (rd flow j) (rd counts j), lowDen (rd flow j) (rd counts j))
def costF (flow counts : List Int) : Int × Int × Bool := if countsOk flow counts = true then sumF (ratioL flow counts) (0, 1) else (0, 0, false)

def viol (flow counts : List Int) (i k : Nat) : Bool := decide (i ≠ k ∧ 1 < rd counts i ∧ rd flow i * gK (rd counts i - 1) < rd flow k * gK (rd counts k))
def stabB (flow counts : List Int) : Bool := allTo (fun i => allTo (fun k => !viol flow counts i k) flow.length) flow.length
def stableF (flow counts : List Int) : Bool × Bool := if countsOk flow counts = true then (stabB flow counts, true) else (false, false)

def ratioS (flow counts : List Int) (n : Nat) : List S35 := (List.range n).map fun (j : Nat) => ⟨lowNum (rd flow j) (rd counts j), lowDen (rd flow j) (rd counts j)⟩

theorem laws_sumOf_ev (l : List Int) (lo hi : Int) (h : ∀ x ∈ l, lo ≤ x ∧ x ≤ hi) (hlo : -1048576 ≤ lo) (hhi : hi ≤ 1073741824) (hl : l.length ≤ 1048576) : Ev (fun k => laws_sumOf.f k l) l.sum := by
  unfold laws_sumOf.f
  refine ev_up l.length (fun k i => laws_sumOf.l0 k (l.take i).sum l (l.length : Int) (i : Int)) _ (fun _ => True) trivial ?_ ?_
  · intro _
    refine Ev.step0 (Ev.of_eq fun _ => rfl) fun k => ?_
    simp only [laws_sumOf.l0]; rw [if_neg (by omega), List.take_length]
  · intro i hi' _ hn
    have hs := sum_take_succ l i hi'
    have hb := sum_bounds (l.take (i + 1)) (-1048576) 1073741824 fun x hx => by have := h x (List.mem_of_mem_take hx); omega
    have hlen : (l.take (i + 1)).length ≤ 1048576 := by rw [List.length_take]; omega
    refine Ev.step0 (hn trivial) fun k => ?_
    simp only [laws_sumOf.l0]; rw [if_pos (lt_len hi'), if_pos (by omega), if_pos (lt_len hi'), rd_nat l i hi', ← hs, w64 (by omega) (by omega), w64 (by omega) (by omega)]; rfl

def gainN (g : List Int) (c : Nat) : Int := if c = 0 then 0 else rd g ((c - 1 : Nat) : Int)
def okO (g : List Int) : Bool := decide (g.length ≤ 6) && allIn g (-1000) 1000
theorem gainN_bound {g : List Int} (h : okO g = true) (c : Nat) : -1000 ≤ gainN g c ∧ gainN g c ≤ 1000 := by
  simp only [okO, Bool.and_eq_true, decide_eq_true_eq, allIn_iff] at h
  unfold gainN
  split
  · omega
  · rcases Nat.lt_or_ge (c - 1) g.length with h1 | h1
    · rw [rd_nat g _ h1]; exact h.2 _ (List.getElem_mem h1)
    · have : rd g ((c - 1 : Nat) : Int) = 0 := by simp [rd, h1]
      omega
def bestTo (row g : List Int) (p : Nat) : Nat → Int
  | 0 => rd row (p : Int)
  | c + 1 => max (bestTo row g p c) (rd row ((p - (c + 1) : Nat) : Int) + gainN g (c + 1))
def rowNext (row g : List Int) (P : Nat) : List Int := (List.range (P + 1)).map fun p => bestTo row g p (min p g.length)
def rowAt (gs : List (List Int)) (P : Nat) : Nat → List Int
  | 0 => List.replicate (P + 1) 0
  | i + 1 => rowNext (rowAt gs P i) (gs.getD i []) P
theorem rowNext_len (row g : List Int) (P : Nat) : (rowNext row g P).length = P + 1 := by simp [rowNext]
theorem rowAt_len (gs : List (List Int)) (P i : Nat) : (rowAt gs P i).length = P + 1 := by
  cases i with
  | zero => simp [rowAt]
  | succ i => simp only [rowAt]; exact rowNext_len _ _ _
theorem rowNext_rd (row g : List Int) (P p : Nat) (h : p ≤ P) : rd (rowNext row g P) (p : Int) = bestTo row g p (min p g.length) := by
  rw [rd_nat _ p (by rw [rowNext_len]; omega)]; simp [rowNext]
theorem bestTo_ge (row g : List Int) (p c : Nat) : ∀ e, e ≤ c → rd row ((p - e : Nat) : Int) + gainN g e ≤ bestTo row g p c := by
  induction c with
  | zero => intro e he; obtain rfl : e = 0 := by omega
            simp [bestTo, gainN]
  | succ c ih =>
    intro e he
    simp only [bestTo]
    rcases Nat.lt_or_ge c e with h | h
    · obtain rfl : e = c + 1 := by omega
      omega
    · have := ih e h; omega
theorem bestTo_at (row g : List Int) (p c : Nat) : ∃ e, e ≤ c ∧ rd row ((p - e : Nat) : Int) + gainN g e = bestTo row g p c := by
  induction c with
  | zero => exact ⟨0, Nat.le_refl _, by simp [bestTo, gainN]⟩
  | succ c ih =>
    obtain ⟨e, he, h⟩ := ih
    simp only [bestTo]
    by_cases hx : bestTo row g p c ≤ rd row ((p - (c + 1) : Nat) : Int) + gainN g (c + 1)
    · exact ⟨c + 1, Nat.le_refl _, by omega⟩
    · exact ⟨e, by omega, by omega⟩
theorem rowAt_bound {gs : List (List Int)} (h : ∀ i, i < gs.length → okO (gs.getD i []) = true) (P : Nat) : ∀ i, i ≤ gs.length → ∀ p, p ≤ P → 0 ≤ rd (rowAt gs P i) (p : Int) ∧ rd (rowAt gs P i) (p : Int) ≤ 1000 * (i : Int) := by
  intro i
  induction i with
  | zero => intro _ p hp; simp only [rowAt]; rw [rd_nat _ p (by simp; omega)]; simp
  | succ i ih =>
    intro hi p hp
    simp only [rowAt]
    rw [rowNext_rd _ _ _ _ hp]
    have h0 := bestTo_ge (rowAt gs P i) (gs.getD i []) p (min p (gs.getD i []).length) 0 (Nat.zero_le _)
    obtain ⟨e, he, h1⟩ := bestTo_at (rowAt gs P i) (gs.getD i []) p (min p (gs.getD i []).length)
    have h2 := ih (by omega) p hp
    have h3 := ih (by omega) (p - e) (by omega)
    have h4 := gainN_bound (h i (by omega)) e
    simp only [gainN, if_true, Nat.sub_zero] at h0
    omega
def sumN (f : Nat → Int) : Nat → Int
  | 0 => 0
  | n + 1 => sumN f n + f n
theorem sumN_congr {f g : Nat → Int} {n : Nat} (h : ∀ i, i < n → f i = g i) : sumN f n = sumN g n := by
  induction n with
  | zero => rfl
  | succ n ih => simp only [sumN]; rw [ih fun i hi => h i (by omega), h n (by omega)]
theorem sumN_le {f g : Nat → Int} {n : Nat} (h : ∀ i, i < n → f i ≤ g i) : sumN f n ≤ sumN g n := by
  induction n with
  | zero => exact Int.le_refl _
  | succ n ih => simp only [sumN]; have := ih fun i hi => h i (by omega); have := h n (by omega); omega
theorem sumN_take (l : List Int) (n : Nat) (h : n ≤ l.length) : sumN (fun i => rd l (i : Int)) n = (l.take n).sum := by
  induction n with
  | zero => simp [sumN]
  | succ n ih => simp only [sumN]; rw [ih (by omega), sum_take_succ l n (by omega), rd_nat l n (by omega)]
structure Counts (gs : List (List Int)) (n : Nat) (d : Nat → Nat) : Prop where
  le : ∀ i, i < n → d i ≤ (gs.getD i []).length
def valN (gs : List (List Int)) (d : Nat → Nat) (n : Nat) : Int := sumN (fun i => gainN (gs.getD i []) (d i)) n
def plN (d : Nat → Nat) : Nat → Nat
  | 0 => 0
  | n + 1 => plN d n + d n
theorem rowAt_most (gs : List (List Int)) (P : Nat) (d : Nat → Nat) : ∀ n p, Counts gs n d → plN d n ≤ p → p ≤ P → valN gs d n ≤ rd (rowAt gs P n) (p : Int) := by
  intro n
  induction n with
  | zero => intro p _ _ hp; simp only [valN, sumN, rowAt]; rw [rd_nat _ p (by simp; omega)]; simp
  | succ n ih =>
    intro p hc hl hp
    simp only [plN] at hl
    have h1 := ih (p - d n) ⟨fun i hi => hc.le i (by omega)⟩ (by omega) (by omega)
    have h2 := hc.le n (by omega)
    have h3 := bestTo_ge (rowAt gs P n) (gs.getD n []) p (min p (gs.getD n []).length) (d n) (by omega)
    simp only [rowAt]
    rw [rowNext_rd _ _ _ _ hp, show valN gs d (n + 1) = valN gs d n + gainN (gs.getD n []) (d n) from rfl]
    omega

def gl (l : List S53) : List (List Int) := l.map (fun o => o.f0)
theorem gl_len (l : List S53) : (gl l).length = l.length := by simp [gl]
theorem offer_rd (l : List S53) (i : Nat) (h : i < l.length) : rd_T53 l (i : Int) = l[i] := by simp [rd_T53, h]
theorem gl_get (l : List S53) (i : Nat) (h : i < l.length) : (gl l).getD i [] = l[i].f0 := by simp [gl, h]
def offersOk (l : List S53) : Bool := decide (l.length ≤ 12) && l.all (fun o => okO o.f0)
theorem offersOk_iff (l : List S53) : offersOk l = true ↔ l.length ≤ 12 ∧ ∀ i, i < (gl l).length → okO ((gl l).getD i []) = true := by
  simp only [offersOk, Bool.and_eq_true, decide_eq_true_eq, List.all_eq_true]
  constructor
  · rintro ⟨h1, h2⟩
    refine ⟨h1, fun i hi => ?_⟩
    rw [gl_len] at hi
    rw [gl_get l i hi]; exact h2 _ (List.getElem_mem hi)
  · rintro ⟨h1, h2⟩
    refine ⟨h1, fun o ho => ?_⟩
    obtain ⟨i, hi, rfl⟩ := List.getElem_of_mem ho
    have := h2 i (by rw [gl_len]; exact hi)
    rwa [gl_get l i hi] at this
def offered (l : List S53) (p : Int) : Bool := offersOk l && (decide (0 ≤ p) && decide (p ≤ 40))

theorem impl_isOffer_ev (g : List Int) (h : g.length ≤ 1048576) : Ev (fun k => impl_isOffer.f k g) (okO g) := by
  unfold impl_isOffer.f okO
  by_cases h6 : (g.length : Int) ≤ 6
  · rw [decide_eq_true (show g.length ≤ 6 by omega), Bool.true_and]
    exact Ev.pos h6 (Ev.bind (impl_allWithin_ev g (-1000) 1000 (by omega)) (Ev.now _))
  · rw [decide_eq_false (by omega)]; exact Ev.neg h6 (Ev.now _)
theorem impl_GoodOffers_ev (l : List S53) (h : l.length ≤ 1048576) (hg : ∀ o ∈ l, o.f0.length ≤ 1048576) : Ev (fun k => impl_GoodOffers.f k l) (offersOk l) := by
  unfold impl_GoodOffers.f sl0_ContainsFunc.f sl2_IndexFunc.f
  by_cases h12 : (l.length : Int) ≤ 12
  · refine Ev.pos h12 ?_
    obtain ⟨j, hj, hev⟩ := ev_indexFunc l (rd_T53 l) (fun i hi => offer_rd l i hi) (fun k x => impl_GoodOffers_1.f k x.f0) (fun o => !okO o.f0) (fun x hx => by
      unfold impl_GoodOffers_1.f
      exact Ev.bind (impl_isOffer_ev x.f0 (hg x hx)) (Ev.now _)) (fun k i => sl2_IndexFunc.l0 k l (l.length : Int) i) (fun k i => rfl) (by omega)
    refine Ev.to (Ev.bind (Ev.bind hev (Ev.now _)) (Ev.now _)) ?_
    rw [hj, any_not_all]; unfold offersOk
    rw [decide_eq_true (show l.length ≤ 12 by omega)]; simp
  · refine Ev.to (Ev.neg h12 (Ev.now _)) ?_
    unfold offersOk; rw [decide_eq_false (by omega)]; rfl
theorem impl_isOffered_ev (l : List S53) (p : Int) (h : l.length ≤ 1048576) (hg : ∀ o ∈ l, o.f0.length ≤ 1048576) : Ev (fun k => impl_isOffered.f k l p) (offered l p) := by
  unfold impl_isOffered.f offered
  refine Ev.bind (impl_GoodOffers_ev l h hg) (Ev.ite (fun h1 => ?_) (fun h1 => ?_))
  · rw [h1, Bool.true_and]; exact Ev.bind0 (impl_within_eq _ _ _) (Ev.now _)
  · rw [Bool.eq_false_iff.mpr h1, Bool.false_and]; exact Ev.now _

theorem spec_GoodOffers_ev (l : List S53) (h : l.length ≤ 1048576) (hg : ∀ o ∈ l, o.f0.length ≤ 1048576) : Ev (fun k => spec_GoodOffers.f k l) (offersOk l) := by
  unfold spec_GoodOffers.f
  have gen : ∀ (d i : Nat), i + d = l.length → Ev (fun k => spec_GoodOffers.l0 k l l (l.length : Int) (i : Int)) ((l.drop i).all (fun o => okO o.f0) && decide (l.length ≤ 12)) := by
    intro d
    induction d with
    | zero =>
      intro i hi
      rw [List.drop_of_length_le (by omega)]
      refine Ev.succ ?_
      simp only [spec_GoodOffers.l0]
      refine Ev.neg (by omega) (Ev.to (Ev.now _) ?_)
      simp; omega
    | succ d ih =>
      intro i hi
      have hi' : i < l.length := by omega
      have hgi := hg _ (List.getElem_mem hi')
      rw [List.drop_eq_getElem_cons hi', List.all_cons]
      refine Ev.succ ?_
      simp only [spec_GoodOffers.l0]
      rw [offer_rd l i hi', w64n hi' (by omega)]
      refine Ev.pos (by omega) (Ev.pos (by omega) (Ev.pos (by omega) (Ev.ite (fun h1 => ?_) (fun h1 => Ev.bind (spec_l1All_ev _ (-1000) 1000 (by omega)) (Ev.ite (fun h2 => ?_) (fun h2 => ?_))))))
      · have : okO l[i].f0 = false := by unfold okO; rw [decide_eq_false (by omega)]; rfl
        rw [this]; exact Ev.now _
      · have : okO l[i].f0 = true := by unfold okO; rw [decide_eq_true (by omega), h2]; rfl
        rw [this, Bool.true_and]; exact ih (i + 1) (by omega)
      · have : okO l[i].f0 = false := by unfold okO; rw [Bool.eq_false_iff.mpr h2, Bool.and_false]
        rw [this]; exact Ev.now _
  refine Ev.to (gen l.length 0 (by omega)) ?_
  unfold offersOk; rw [List.drop_zero, Bool.and_comm]

def tabs (gs : List (List Int)) (P n : Nat) : List (List Int) := (List.range n).map (rowAt gs P)
theorem tabs_len (gs : List (List Int)) (P n : Nat) : (tabs gs P n).length = n := by simp [tabs]
theorem tabs_succ (gs : List (List Int)) (P n : Nat) : tabs gs P (n + 1) = tabs gs P n ++ [rowAt gs P n] := by unfold tabs; rw [List.range_succ, List.map_append]; rfl
theorem tabs_rd (gs : List (List Int)) (P n i : Nat) (h : i < n) : rd_L2 (tabs gs P n) (i : Int) = rowAt gs P i := by simp [rd_L2, tabs, h]
theorem set_fill (f : Nat → Int) (row : List Int) (w : Nat) (h : w < row.length) (v : Int) (hv : v = f w) : ((List.range w).map f ++ row.drop w).set w v = (List.range (w + 1)).map f ++ row.drop (w + 1) := by
  rw [List.set_append_right _ _ (by simp), List.length_map, List.length_range, Nat.sub_self, List.drop_eq_getElem_cons h, List.set_cons_zero, List.range_succ, List.map_append, List.append_assoc, hv]; rfl

theorem impl_gain_eq (g : List Int) (c : Nat) (h : c ≤ g.length) (hl : g.length ≤ 1048576) : impl_Offer_gain.f g (c : Int) = some (gainN g c) := by
  unfold impl_Offer_gain.f gainN
  by_cases h0 : c = 0
  · rw [if_pos (by omega), if_pos h0]
  · rw [if_neg (by omega), if_neg h0, w64 (by omega) (by omega), show (c : Int) - 1 = ((c - 1 : Nat) : Int) by omega, if_pos (by omega), if_pos (by omega)]
theorem impl_tables_ev (l : List S53) (P : Nat) (hP : P ≤ 40) (hok : offersOk l = true) : Ev (fun k => impl_tables.f k l (P : Int)) (tabs (gl l) P (l.length + 1)) := by
  obtain ⟨h12, hg⟩ := (offersOk_iff l).mp hok
  rw [gl_len] at hg
  unfold impl_tables.f
  rw [w64 (x := (P : Int) + 1) (by omega) (by omega), show (P : Int) + 1 = ((P + 1 : Nat) : Int) by omega, toNat_nat]
  refine Ev.pos (by omega) (Ev.pos (by omega) ?_)
  have e1 : ([List.replicate (P + 1) 0] : List (List Int)) = tabs (gl l) P 1 := by simp [tabs, rowAt]
  rw [e1]
  refine ev_up l.length (fun k i => impl_tables.l0 k (tabs (gl l) P (i + 1)) l (l.length : Int) (i : Int)) _ (fun _ => True) trivial ?_ ?_
  · intro _; refine Ev.succ ?_; simp only [impl_tables.l0]; exact Ev.neg (by omega) (Ev.now _)
  · intro i hi _ hn
    have hn := hn trivial
    have hgi := hg i hi
    have hb := rowAt_bound (gs := gl l) (by rw [gl_len]; exact hg) P i (by rw [gl_len]; omega)
    have hgl : ((gl l).getD i []).length ≤ 6 := by simp only [okO, Bool.and_eq_true, decide_eq_true_eq] at hgi; exact hgi.1
    refine Ev.succ ?_
    simp only [impl_tables.l0]
    rw [tabs_rd _ _ _ _ (by omega), offer_rd l i hi, tabs_len]
    refine Ev.pos (by omega) (Ev.pos (by omega) (Ev.pos (by omega) (Ev.pos (by omega) (Ev.bind0 (a := rowAt (gl l) P i) ?_ ?_))))
    · unfold slices_Clone_int_int.f
      simp only [Option.bind_some, List.nil_append, List.length_nil, Nat.zero_add]
      rw [if_pos (by rw [rowAt_len]; omega)]
    rw [← gl_get l i hi, rowAt_len]
    have key := ev_up (P + 1) (fun k w => impl_tables.l1 k (tabs (gl l) P (i + 1)) (i : Int) ((List.range w).map (fun p => bestTo (rowAt (gl l) P i) ((gl l).getD i []) p (min p ((gl l).getD i []).length)) ++ (rowAt (gl l) P i).drop w) l (l.length : Int) (i : Int) ((P + 1 : Nat) : Int) (w : Int) ((gl l).getD i [])) (tabs (gl l) P (l.length + 1)) (fun _ => True) trivial ?_ ?_
    · simpa using key
    · intro _
      refine Ev.succ ?_
      simp only [impl_tables.l1]
      rw [w64n hi (by omega)]
      refine Ev.neg (by omega) (Ev.pos (by rw [tabs_len]; omega) ?_)
      rw [tabs_succ] at hn
      rw [List.drop_of_length_le (by rw [rowAt_len]; omega), List.append_nil]
      exact hn
    · intro w hw _ hnw
      have hnw := hnw trivial
      refine Ev.succ ?_
      simp only [impl_tables.l1]
      refine Ev.pos (by omega) ?_
      generalize hg' : (gl l).getD i [] = g at *
      have inner : ∀ (d c : Nat), c + d = min w g.length → Ev (fun k => impl_tables.l2 k (tabs (gl l) P (i + 1)) (i : Int) (((List.range w).map (fun p => bestTo (rowAt (gl l) P i) g p (min p g.length)) ++ (rowAt (gl l) P i).drop w).set w (bestTo (rowAt (gl l) P i) g w c)) (w : Int) ((c : Int) + 1) l (l.length : Int) (i : Int) ((P + 1 : Nat) : Int) (w : Int) g) (tabs (gl l) P (l.length + 1)) := by
        intro d
        induction d with
        | zero =>
          intro c hc
          refine Ev.succ ?_
          simp only [impl_tables.l2]
          rw [mn_min, w64 (x := (w : Int) + 1) (by omega) (by omega), show (w : Int) + 1 = ((w + 1 : Nat) : Int) by omega]
          refine Ev.neg (by omega) ?_
          rw [set_fill _ _ _ (by rw [rowAt_len]; omega) _ (by rw [show c = min w g.length by omega])]
          exact hnw
        | succ d ih =>
          intro c hc
          have hl8 : (((List.range w).map (fun p => bestTo (rowAt (gl l) P i) g p (min p g.length)) ++ (rowAt (gl l) P i).drop w).set w (bestTo (rowAt (gl l) P i) g w c)).length = P + 1 := by
            simp [rowAt_len]; omega
          have r1 : rd (((List.range w).map (fun p => bestTo (rowAt (gl l) P i) g p (min p g.length)) ++ (rowAt (gl l) P i).drop w).set w (bestTo (rowAt (gl l) P i) g w c)) (w : Int) = bestTo (rowAt (gl l) P i) g w c := by
            rw [rd_nat _ w (by rw [hl8]; omega)]; simp
          have b1 := hb (w - (c + 1)) (by omega)
          have b2 := gainN_bound hgi (c + 1)
          refine Ev.succ ?_
          simp only [impl_tables.l2]
          rw [mn_min, hl8, tabs_len, tabs_rd _ _ _ _ (by omega), rowAt_len, w64 (x := (w : Int) - ((c : Int) + 1)) (by omega) (by omega), show (w : Int) - ((c : Int) + 1) = ((w - (c + 1) : Nat) : Int) by omega, show (c : Int) + 1 = ((c + 1 : Nat) : Int) by omega, toNat_nat, r1]
          refine Ev.pos (by omega) (Ev.pos (by omega) (Ev.pos (by omega) (Ev.pos (by omega) (Ev.pos (by omega) (Ev.pos (by omega) (Ev.pos (by omega) (Ev.bind0 (impl_gain_eq g (c + 1) (by omega) (by omega)) ?_)))))))
          rw [mx_max, w64 (x := rd (rowAt (gl l) P i) ((w - (c + 1) : Nat) : Int) + gainN g (c + 1)) (by omega) (by omega), w64 (x := ((c + 1 : Nat) : Int) + 1) (by omega) (by omega), List.set_set]
          exact ih (c + 1) (by omega)
      have h0 := inner (min w g.length) 0 (by omega)
      have e0 : ((List.range w).map (fun p => bestTo (rowAt (gl l) P i) g p (min p g.length)) ++ (rowAt (gl l) P i).drop w).set w (bestTo (rowAt (gl l) P i) g w 0) = (List.range w).map (fun p => bestTo (rowAt (gl l) P i) g p (min p g.length)) ++ (rowAt (gl l) P i).drop w := by
        have hw' : w < (rowAt (gl l) P i).length := by rw [rowAt_len]; omega
        rw [List.set_append_right _ _ (by simp), List.length_map, List.length_range, Nat.sub_self, List.drop_eq_getElem_cons hw', List.set_cons_zero]
        simp only [bestTo]; rw [rd_nat _ w hw']
      rw [e0] at h0
      exact h0

theorem spec_gain_eq (g : List Int) (c : Nat) (h : c ≤ g.length) (hl : g.length ≤ 1048576) : spec_l6Gain.f g (c : Int) = some (gainN g c) := by
  unfold spec_l6Gain.f gainN
  by_cases h0 : c = 0
  · rw [if_pos (by omega), if_pos h0]
  · rw [if_neg (by omega), if_neg h0, w64 (by omega) (by omega), show (c : Int) - 1 = ((c - 1 : Nat) : Int) by omega, if_pos (by omega), if_pos (by omega)]
theorem spec_l6Rows_ev (l : List S53) (P : Nat) (hP : P ≤ 40) (hok : offersOk l = true) : Ev (fun k => spec_l6Rows.f k l (P : Int)) (tabs (gl l) P (l.length + 1)) := by
  obtain ⟨h12, hg⟩ := (offersOk_iff l).mp hok
  rw [gl_len] at hg
  unfold spec_l6Rows.f
  rw [w64 (x := (P : Int) + 1) (by omega) (by omega), show (P : Int) + 1 = ((P + 1 : Nat) : Int) by omega, toNat_nat]
  refine Ev.pos (by omega) (Ev.pos (by omega) (Ev.bind0 rfl ?_))
  have e1 : ([List.replicate (P + 1) 0] : List (List Int)) = tabs (gl l) P 1 := by simp [tabs, rowAt]
  rw [e1]
  refine ev_up l.length (fun k i => spec_l6Rows.l0 k (P : Int) (rowAt (gl l) P i) (tabs (gl l) P (i + 1)) l (l.length : Int) (i : Int)) _ (fun _ => True) trivial ?_ ?_
  · intro _; refine Ev.succ ?_; simp only [spec_l6Rows.l0]; exact Ev.neg (by omega) (Ev.now _)
  · intro i hi _ hn
    have hn := hn trivial
    have hgi := hg i hi
    have hb := rowAt_bound (gs := gl l) (by rw [gl_len]; exact hg) P i (by rw [gl_len]; omega)
    have hgl : ((gl l).getD i []).length ≤ 6 := by simp only [okO, Bool.and_eq_true, decide_eq_true_eq] at hgi; exact hgi.1
    refine Ev.succ ?_
    simp only [spec_l6Rows.l0]
    rw [w64 (x := (P : Int) + 1) (by omega) (by omega), show (P : Int) + 1 = ((P + 1 : Nat) : Int) by omega, toNat_nat, offer_rd l i hi]
    refine Ev.pos (by omega) (Ev.pos (by omega) (Ev.pos (by omega) (Ev.pos (by omega) (Ev.pos (by omega) (Ev.bind0 rfl ?_)))))
    rw [← gl_get l i hi, List.length_replicate]
    have key := ev_up (P + 1) (fun k w => spec_l6Rows.l1 k (P : Int) (rowAt (gl l) P i) (tabs (gl l) P (i + 1)) ((List.range w).map (fun p => bestTo (rowAt (gl l) P i) ((gl l).getD i []) p (min p ((gl l).getD i []).length)) ++ (List.replicate (P + 1) 0).drop w) l (l.length : Int) (i : Int) ((P + 1 : Nat) : Int) (w : Int) ((gl l).getD i [])) (tabs (gl l) P (l.length + 1)) (fun _ => True) trivial ?_ ?_
    · simpa using key
    · intro _
      refine Ev.succ ?_
      simp only [spec_l6Rows.l1]
      rw [w64n hi (by omega)]
      refine Ev.neg (by omega) (Ev.pos (by rw [tabs_len]; omega) ?_)
      rw [tabs_succ] at hn
      rw [List.drop_of_length_le (by simp), List.append_nil]
      exact hn
    · intro w hw _ hnw
      have hnw := hnw trivial
      refine Ev.succ ?_
      simp only [spec_l6Rows.l1]
      rw [rowAt_len]
      refine Ev.pos (by omega) (Ev.pos (by omega) (Ev.pos (by omega) ?_))
      generalize hg' : (gl l).getD i [] = g at *
      have inner : ∀ (d c : Nat), c + d = min w g.length → Ev (fun k => spec_l6Rows.l2 k (P : Int) (rowAt (gl l) P i) (tabs (gl l) P (i + 1)) ((List.range w).map (fun p => bestTo (rowAt (gl l) P i) g p (min p g.length)) ++ (List.replicate (P + 1) 0).drop w) (w : Int) (bestTo (rowAt (gl l) P i) g w c) ((c : Int) + 1) l (l.length : Int) (i : Int) ((P + 1 : Nat) : Int) (w : Int) g) (tabs (gl l) P (l.length + 1)) := by
        intro d
        induction d with
        | zero =>
          intro c hc
          have fin : Ev (fun k => spec_l6Rows.j3 k (P : Int) (rowAt (gl l) P i) (tabs (gl l) P (i + 1)) ((List.range w).map (fun p => bestTo (rowAt (gl l) P i) g p (min p g.length)) ++ (List.replicate (P + 1) 0).drop w) (w : Int) (bestTo (rowAt (gl l) P i) g w c) ((c : Int) + 1) l (l.length : Int) (i : Int) ((P + 1 : Nat) : Int) (w : Int) false g) (tabs (gl l) P (l.length + 1)) := by
            refine Ev.succ ?_
            simp only [spec_l6Rows.j3]
            rw [w64 (x := (w : Int) + 1) (by omega) (by omega), show (w : Int) + 1 = ((w + 1 : Nat) : Int) by omega, toNat_nat]
            refine Ev.neg (by simp) (Ev.pos (by omega) (Ev.pos (by simp; omega) ?_))
            rw [set_fill _ _ _ (by simp; omega) _ (by rw [show c = min w g.length by omega])]
            exact hnw
          refine Ev.succ ?_
          simp only [spec_l6Rows.l2]
          refine Ev.ite (fun h => ?_) (fun _ => fin)
          rw [decide_eq_false (by omega)]; exact fin
        | succ d ih =>
          intro c hc
          have b1 := hb (w - (c + 1)) (by omega)
          have b2 := gainN_bound hgi (c + 1)
          have hi2 := ih (c + 1) (by omega)
          refine Ev.succ ?_
          simp only [spec_l6Rows.l2]
          refine Ev.pos (by omega) ?_
          rw [decide_eq_true (by omega)]
          refine Ev.succ ?_
          simp only [spec_l6Rows.j3]
          rw [rowAt_len, w64 (x := (w : Int) - ((c : Int) + 1)) (by omega) (by omega), show (w : Int) - ((c : Int) + 1) = ((w - (c + 1) : Nat) : Int) by omega, show (c : Int) + 1 = ((c + 1 : Nat) : Int) by omega, w64 (x := ((c + 1 : Nat) : Int) + 1) (by omega) (by omega)]
          refine Ev.pos trivial (Ev.pos (by omega) (Ev.pos (by omega) (Ev.bind0 (spec_gain_eq g (c + 1) (by omega) (by omega)) ?_)))
          rw [w64 (x := rd (rowAt (gl l) P i) ((w - (c + 1) : Nat) : Int) + gainN g (c + 1)) (by omega) (by omega)]
          simp only [bestTo] at hi2
          refine Ev.ite (fun h => ?_) (fun h => ?_)
          · rw [show max (bestTo (rowAt (gl l) P i) g w c) (rd (rowAt (gl l) P i) ((w - (c + 1) : Nat) : Int) + gainN g (c + 1)) = rd (rowAt (gl l) P i) ((w - (c + 1) : Nat) : Int) + gainN g (c + 1) by omega] at hi2
            exact hi2
          · rw [show max (bestTo (rowAt (gl l) P i) g w c) (rd (rowAt (gl l) P i) ((w - (c + 1) : Nat) : Int) + gainN g (c + 1)) = bestTo (rowAt (gl l) P i) g w c by omega] at hi2
            exact hi2
      have h0 := inner (min w g.length) 0 (by omega)
      exact h0

theorem plN_congr {d e : Nat → Nat} {n : Nat} (h : ∀ i, i < n → d i = e i) : plN d n = plN e n := by
  induction n with
  | zero => rfl
  | succ n ih => simp only [plN]; rw [ih fun i hi => h i (by omega), h n (by omega)]
theorem plN_bump (d : Nat → Nat) {n j : Nat} (h : j < n) : plN (fun i => if i = j then d i + 1 else d i) n = plN d n + 1 := by
  induction n with
  | zero => omega
  | succ n ih =>
    simp only [plN]
    by_cases e : j = n
    · subst e
      rw [plN_congr (e := d) (fun i hi => if_neg (by omega)), if_pos rfl]; omega
    · rw [ih (by omega), if_neg (by omega)]; omega
theorem plN_sum (l : List Int) (d : Nat → Nat) (h : ∀ i, i < l.length → rd l (i : Int) = (d i : Int)) : l.sum = (plN d l.length : Int) := by
  have h1 := sumN_take l l.length (Nat.le_refl _)
  rw [List.take_length] at h1
  rw [← h1]
  have gen : ∀ n, n ≤ l.length → sumN (fun i => rd l (i : Int)) n = (plN d n : Int) := by
    intro n
    induction n with
    | zero => intro _; rfl
    | succ n ih => intro hn; simp only [sumN, plN]; rw [ih (by omega), h n (by omega)]; omega
  exact gen _ (Nat.le_refl _)
theorem rd_setc (o : List Int) (b x : Nat) (v : Int) (h : b < o.length) : rd (o.set b v) (x : Int) = if x = b then v else rd o (x : Int) := by
  simp only [rd, Int.toNat_natCast, List.getD_eq_getElem?_getD, List.getElem?_set]
  by_cases hx : b = x
  · subst hx; simp [h]
  · rw [if_neg hx, if_neg (fun e => hx e.symm)]
theorem exists_pick (gs : List (List Int)) (P i left : Nat) (h : left ≤ P) : ∃ c, (c ≤ left ∧ c ≤ (gs.getD i []).length) ∧ rd (rowAt gs P i) ((left - c : Nat) : Int) + gainN (gs.getD i []) c = rd (rowAt gs P (i + 1)) (left : Int) := by
  obtain ⟨e, he, h1⟩ := bestTo_at (rowAt gs P i) (gs.getD i []) left (min left (gs.getD i []).length)
  refine ⟨e, by omega, ?_⟩
  simp only [rowAt]
  rw [rowNext_rd _ _ _ _ h, h1]

theorem choice_back (l : List S53) (P : Nat) (hP : P ≤ 40) (hok : offersOk l = true) : ∀ (i : Nat), i ≤ l.length → ∀ (left : Nat), left ≤ P → ∀ (cs : List Int), cs.length = l.length →
    ∃ cs', Ev (fun k => impl_BestChoice.l0 k l (P : Int) (tabs (gl l) P (l.length + 1)) cs (left : Int) ((i : Int) - 1)) (cs', rd (rowAt (gl l) P l.length) (P : Int), true) ∧
      Ev (fun k => spec_BestChoice.l0 k l (P : Int) (tabs (gl l) P (l.length + 1)) cs (left : Int) ((i : Int) - 1)) (cs', rd (rowAt (gl l) P l.length) (P : Int), true) ∧ cs'.length = l.length ∧
      (∀ j : Nat, i ≤ j → j < l.length → rd cs' (j : Int) = rd cs (j : Int)) ∧ ∃ d : Nat → Nat, (∀ j : Nat, j < i → rd cs' (j : Int) = (d j : Int)) ∧ Counts (gl l) i d ∧ plN d i ≤ left ∧ valN (gl l) d i = rd (rowAt (gl l) P i) (left : Int) := by
  obtain ⟨h12, hg⟩ := (offersOk_iff l).mp hok
  rw [gl_len] at hg
  intro i
  induction i with
  | zero =>
    intro _ left hl cs hcs
    refine ⟨cs, ?_, ?_, hcs, fun _ _ _ => rfl, fun _ => 0, fun j hj => by omega, ⟨fun j hj => by omega⟩, Nat.zero_le _, ?_⟩
    · refine Ev.succ ?_
      simp only [impl_BestChoice.l0]
      rw [tabs_len, tabs_rd _ _ _ _ (by omega), rowAt_len]
      exact Ev.neg (by omega) (Ev.pos (by omega) (Ev.pos (by omega) (Ev.pos (by omega) (Ev.pos (by omega) (Ev.now _)))))
    · refine Ev.succ ?_
      simp only [spec_BestChoice.l0]
      rw [tabs_len, tabs_rd _ _ _ _ (by omega), rowAt_len]
      exact Ev.neg (by omega) (Ev.pos (by omega) (Ev.pos (by omega) (Ev.pos (by omega) (Ev.pos (by omega) (Ev.now _)))))
    · simp only [valN, sumN, rowAt]; rw [rd_nat _ left (by simp; omega)]; simp
  | succ i ih =>
    intro hi left hl cs hcs
    have hi' : i < l.length := by omega
    have hgi := hg i hi'
    have hgl : ((gl l).getD i []).length ≤ 6 := by simp only [okO, Bool.and_eq_true, decide_eq_true_eq] at hgi; exact hgi.1
    have hb := rowAt_bound (gs := gl l) (by rw [gl_len]; exact hg) P i (by rw [gl_len]; omega)
    obtain ⟨c, ⟨⟨hc1, hc2⟩, hc3⟩, hmin⟩ := exists_least (exists_pick (gl l) P i left hl)
    obtain ⟨cs', hI, hS, hl', hkeep, d, hd1, hd2, hd3, hd4⟩ := ih (by omega) (left - c) (by omega) (cs.set i (c : Int)) (by simp; exact hcs)
    have ne : ∀ j, j < c → ¬ (rd (rowAt (gl l) P i) ((left - j : Nat) : Int) + gainN ((gl l).getD i []) j = rd (rowAt (gl l) P (i + 1)) (left : Int)) := fun j hj h => by
      have := hmin j ⟨by omega, h⟩; omega
    have wi : ∀ j, j ≤ c → wrap64 (rd (rowAt (gl l) P i) ((left - j : Nat) : Int) + gainN ((gl l).getD i []) j) = rd (rowAt (gl l) P i) ((left - j : Nat) : Int) + gainN ((gl l).getD i []) j := fun j hj => by
      have b1 := hb (left - j) (by omega)
      have b2 := gainN_bound hgi j
      exact w64 (by omega) (by omega)
    refine ⟨cs', ?_, ?_, hl', fun j hj hj2 => ?_, fun j => if j = i then c else d j, fun j hj => ?_, ⟨fun j hj => ?_⟩, ?_, ?_⟩
    · refine Ev.succ ?_
      simp only [impl_BestChoice.l0]
      rw [show ((i + 1 : Nat) : Int) - 1 = (i : Int) by omega]
      refine Ev.pos (by omega) ?_
      refine ev_up c (fun k j => impl_BestChoice.l1 k l (P : Int) (tabs (gl l) P (l.length + 1)) cs (left : Int) (i : Int) (j : Int)) _ (fun _ => True) trivial (fun _ => ?_) (fun j hj _ hn => ?_)
      · refine Ev.succ ?_
        simp only [impl_BestChoice.l1]
        rw [tabs_len, w64 (x := (left : Int) - (c : Int)) (by omega) (by omega), show (left : Int) - (c : Int) = ((left - c : Nat) : Int) by omega, w64 (x := (i : Int) + 1) (by omega) (by omega), show (i : Int) + 1 = ((i + 1 : Nat) : Int) by omega, tabs_rd _ _ _ _ (by omega), tabs_rd _ _ _ _ (by omega), rowAt_len, rowAt_len, offer_rd l i hi', ← gl_get l i hi', w64 (x := (i : Int) - 1) (by omega) (by omega), toNat_nat]
        refine Ev.pos (by omega) (Ev.pos (by omega) (Ev.pos (by omega) (Ev.pos (by omega) (Ev.pos (by omega) (Ev.bind0 (impl_gain_eq _ c hc2 (by omega)) (Ev.pos (by omega) (Ev.pos (by omega) (Ev.pos (by omega) (Ev.pos (by omega) (Ev.pos ?_ (Ev.pos (by omega) hI)))))))))))
        rw [wi c (Nat.le_refl _)]; exact hc3
      · have hn := hn trivial
        refine Ev.succ ?_
        simp only [impl_BestChoice.l1]
        rw [tabs_len, w64 (x := (left : Int) - (j : Int)) (by omega) (by omega), show (left : Int) - (j : Int) = ((left - j : Nat) : Int) by omega, w64 (x := (i : Int) + 1) (by omega) (by omega), show (i : Int) + 1 = ((i + 1 : Nat) : Int) by omega, tabs_rd _ _ _ _ (by omega), tabs_rd _ _ _ _ (by omega), rowAt_len, rowAt_len, offer_rd l i hi', ← gl_get l i hi', w64 (x := (j : Int) + 1) (by omega) (by omega)]
        refine Ev.pos (by omega) (Ev.pos (by omega) (Ev.pos (by omega) (Ev.pos (by omega) (Ev.pos (by omega) (Ev.bind0 (impl_gain_eq _ j (by omega) (by omega)) (Ev.pos (by omega) (Ev.pos (by omega) (Ev.pos (by omega) (Ev.pos (by omega) (Ev.neg ?_ hn))))))))))
        rw [wi j (by omega)]; exact ne j hj
    · refine Ev.succ ?_
      simp only [spec_BestChoice.l0]
      rw [show ((i + 1 : Nat) : Int) - 1 = (i : Int) by omega]
      refine Ev.pos (by omega) ?_
      refine ev_up c (fun k j => spec_BestChoice.l1 k l (P : Int) (tabs (gl l) P (l.length + 1)) cs (left : Int) (i : Int) (j : Int)) _ (fun _ => True) trivial (fun _ => ?_) (fun j hj _ hn => ?_)
      · refine Ev.succ ?_
        simp only [spec_BestChoice.l1]
        rw [tabs_len, w64 (x := (left : Int) - (c : Int)) (by omega) (by omega), show (left : Int) - (c : Int) = ((left - c : Nat) : Int) by omega, w64 (x := (i : Int) + 1) (by omega) (by omega), show (i : Int) + 1 = ((i + 1 : Nat) : Int) by omega, tabs_rd _ _ _ _ (by omega), tabs_rd _ _ _ _ (by omega), rowAt_len, rowAt_len, offer_rd l i hi', ← gl_get l i hi', w64 (x := (i : Int) - 1) (by omega) (by omega), toNat_nat]
        refine Ev.pos (by omega) (Ev.pos (by omega) (Ev.pos (by omega) (Ev.pos (by omega) (Ev.pos (by omega) (Ev.bind0 (spec_gain_eq _ c hc2 (by omega)) (Ev.pos (by omega) (Ev.pos (by omega) (Ev.pos (by omega) (Ev.pos (by omega) (Ev.pos ?_ (Ev.pos (by omega) hS)))))))))))
        rw [wi c (Nat.le_refl _)]; exact hc3
      · have hn := hn trivial
        refine Ev.succ ?_
        simp only [spec_BestChoice.l1]
        rw [tabs_len, w64 (x := (left : Int) - (j : Int)) (by omega) (by omega), show (left : Int) - (j : Int) = ((left - j : Nat) : Int) by omega, w64 (x := (i : Int) + 1) (by omega) (by omega), show (i : Int) + 1 = ((i + 1 : Nat) : Int) by omega, tabs_rd _ _ _ _ (by omega), tabs_rd _ _ _ _ (by omega), rowAt_len, rowAt_len, offer_rd l i hi', ← gl_get l i hi', w64 (x := (j : Int) + 1) (by omega) (by omega)]
        refine Ev.pos (by omega) (Ev.pos (by omega) (Ev.pos (by omega) (Ev.pos (by omega) (Ev.pos (by omega) (Ev.bind0 (spec_gain_eq _ j (by omega) (by omega)) (Ev.pos (by omega) (Ev.pos (by omega) (Ev.pos (by omega) (Ev.pos (by omega) (Ev.neg ?_ hn))))))))))
        rw [wi j (by omega)]; exact ne j hj
    · rw [hkeep j (by omega) hj2, rd_setc cs i j (c : Int) (by omega), if_neg (by omega)]
    · show rd cs' (j : Int) = ((if j = i then c else d j : Nat) : Int)
      by_cases e : j = i
      · subst e; rw [if_pos rfl, hkeep j (Nat.le_refl _) (by omega), rd_setc cs j j (c : Int) (by omega), if_pos rfl]
      · rw [if_neg e]; exact hd1 j (by omega)
    · by_cases e : j = i
      · subst e; rw [if_pos rfl]; exact hc2
      · rw [if_neg e]; exact hd2.le j (by omega)
    · simp only [plN]
      rw [plN_congr (e := d) (fun j hj => if_neg (by omega)), if_pos trivial]; omega
    · have e1 : valN (gl l) (fun j => if j = i then c else d j) (i + 1) = valN (gl l) d i + gainN ((gl l).getD i []) c := by
        simp only [valN, sumN]
        rw [sumN_congr (g := fun j => gainN ((gl l).getD j []) (d j)) (fun j hj => by rw [if_neg (by omega)]), if_pos trivial]
      rw [e1, hd4, hc3]
theorem BestChoice_ev (l : List S53) (p : Int) (h : l.length ≤ 1048576) (hg : ∀ o ∈ l, o.f0.length ≤ 1048576) : ∃ cs n ok, Ev (fun k => impl_BestChoice.f k l p) (cs, n, ok) ∧ Ev (fun k => spec_BestChoice.f k l p) (cs, n, ok) ∧ ok = offered l p ∧ cs.length ≤ 12 ∧
    (offered l p = true → ∃ P : Nat, p = (P : Int) ∧ P ≤ 40 ∧ n = rd (rowAt (gl l) P l.length) (P : Int) ∧ cs.length = l.length ∧ ∃ d : Nat → Nat, (∀ j : Nat, j < l.length → rd cs (j : Int) = (d j : Int)) ∧ Counts (gl l) l.length d ∧ plN d l.length ≤ P ∧ valN (gl l) d l.length = n) := by
  unfold impl_BestChoice.f spec_BestChoice.f
  have e1 := impl_isOffered_ev l p h hg
  have e2 := spec_GoodOffers_ev l h hg
  have no : ∀ x : Bool, x = true → Ev (fun k => spec_BestChoice.j0 k l p x) ([], 0, false) := fun x hx => by
    refine Ev.succ ?_; simp only [spec_BestChoice.j0]; exact Ev.pos hx (Ev.now _)
  have pl : spec_l6Places.f p = some (decide (0 ≤ p) && decide (p ≤ 40)) := by unfold spec_l6Places.f; rw [spec_l1In_eq]; rfl
  by_cases hok : offered l p = true
  · have hok' := hok
    simp only [offered, Bool.and_eq_true, decide_eq_true_eq] at hok'
    obtain ⟨ho, hp0, hp40⟩ := hok'
    obtain ⟨h12, _⟩ := (offersOk_iff l).mp ho
    obtain ⟨P, rfl⟩ := exists_nat_of_nonneg hp0
    obtain ⟨cs, hI, hS, hl, _, d, hd1, hd2, hd3, hd4⟩ := choice_back l P (by omega) ho l.length (Nat.le_refl _) P (Nat.le_refl _) (List.replicate l.length 0) (by simp)
    refine ⟨cs, rd (rowAt (gl l) P l.length) (P : Int), true, Ev.bind e1 (Ev.pos hok (Ev.bind (impl_tables_ev l P (by omega) ho) (Ev.pos (by omega) (Ev.pos (by rw [toNat_nat]; omega) ?_)))), Ev.bind e2 (Ev.pos ho (Ev.bind0 pl ?_)), hok.symm, by omega, fun _ => ⟨P, rfl, by omega, rfl, hl, d, hd1, hd2, hd3, hd4⟩⟩
    · rw [toNat_nat, w64 (by omega) (by omega)]; exact hI
    · rw [decide_eq_true hp0, decide_eq_true hp40]
      refine Ev.succ ?_
      simp only [spec_BestChoice.j0]
      refine Ev.neg (by simp) (Ev.bind (spec_l6Rows_ev l P (by omega) ho) (Ev.pos (by omega) (Ev.pos (by rw [toNat_nat]; omega) ?_)))
      rw [toNat_nat, w64 (by omega) (by omega)]; exact hS
  · refine ⟨[], 0, false, Ev.bind e1 (Ev.neg hok (Ev.now _)), Ev.bind e2 (Ev.ite (fun h1 => Ev.bind0 pl (no _ ?_)) (fun _ => no _ rfl)), (Bool.eq_false_iff.mpr hok).symm, by simp, fun h => absurd h hok⟩
    unfold offered at hok
    rw [h1, Bool.true_and] at hok
    rw [Bool.eq_false_iff.mpr hok]; rfl

def inAt (l : List S53) (cs : List Int) (i : Nat) : Bool := decide (0 ≤ rd cs (i : Int)) && decide (rd cs (i : Int) ≤ (((gl l).getD i []).length : Int))
def valTo (l : List S53) (cs : List Int) (i : Nat) : Int := sumN (fun j => gainN ((gl l).getD j []) (rd cs (j : Int)).toNat) i
def valOk (l : List S53) (cs : List Int) : Bool := offersOk l && (decide (cs.length = l.length) && allTo (inAt l cs) cs.length)
def valF (l : List S53) (cs : List Int) : Int × Bool := if valOk l cs = true then (valTo l cs cs.length, true) else (0, false)
theorem valTo_bound {l : List S53} (cs : List Int) (h : offersOk l = true) (i : Nat) (hi : i ≤ l.length) : -1000 * (i : Int) ≤ valTo l cs i ∧ valTo l cs i ≤ 1000 * (i : Int) := by
  obtain ⟨h12, hg⟩ := (offersOk_iff l).mp h
  rw [gl_len] at hg
  induction i with
  | zero => simp [valTo, sumN]
  | succ i ih =>
    have := ih (by omega)
    have h2 := gainN_bound (hg i (by omega)) (rd cs (i : Int)).toNat
    have e : valTo l cs (i + 1) = valTo l cs i + gainN ((gl l).getD i []) (rd cs (i : Int)).toNat := rfl
    rw [e]; omega

theorem impl_ValueOf_ev (l : List S53) (cs : List Int) (h : l.length ≤ 1048576) (hg : ∀ o ∈ l, o.f0.length ≤ 1048576) (hc : cs.length ≤ 1048576) : Ev (fun k => impl_ValueOf.f k l cs) (valF l cs) := by
  unfold impl_ValueOf.f valF valOk
  have no : ∀ x : Bool, x = true → Ev (fun k => impl_ValueOf.j0 k l cs x) (0, false) := fun x hx => by
    refine Ev.succ ?_; simp only [impl_ValueOf.j0]; exact Ev.pos hx (Ev.now _)
  refine Ev.bind (impl_GoodOffers_ev l h hg) (Ev.ite (fun h1 => ?_) (fun h1 => by rw [Bool.eq_false_iff.mpr h1]; exact no _ rfl))
  obtain ⟨h12, hgs⟩ := (offersOk_iff l).mp h1
  rw [gl_len] at hgs
  rw [h1, Bool.true_and]
  by_cases hl : cs.length = l.length
  · rw [decide_eq_true hl, Bool.true_and]
    refine Ev.succ ?_
    simp only [impl_ValueOf.j0]
    refine Ev.neg (by simp; omega) ?_
    refine ev_all cs.length (inAt l cs) (fun k i => impl_ValueOf.l0 k l (valTo l cs i) cs (cs.length : Int) (i : Int)) (valTo l cs cs.length, true) (0, false) (fun r i hi hp hn => ?_) (fun i hi hp => ?_) (fun _ => ?_) _ (allTo_iff _ _)
    · have hi' : i < l.length := by omega
      have hgi := hgs i hi'
      have hgl : ((gl l).getD i []).length ≤ 6 := by simp only [okO, Bool.and_eq_true, decide_eq_true_eq] at hgi; exact hgi.1
      have b := valTo_bound cs h1 i (by omega)
      have b2 := gainN_bound hgi (rd cs (i : Int)).toNat
      have hp' := hp
      unfold inAt at hp'
      rw [Bool.and_eq_true, decide_eq_true_eq, decide_eq_true_eq] at hp'
      refine Ev.succ ?_
      simp only [impl_ValueOf.l0]
      rw [w64n hi (by omega), offer_rd l i hi', ← gl_get l i hi']
      refine Ev.pos (by omega) (Ev.pos (by omega) (Ev.pos (by omega) (Ev.pos (by omega) (Ev.bind0 (impl_within_eq _ _ _) (Ev.pos hp (Ev.bind0 (a := gainN ((gl l).getD i []) (rd cs (i : Int)).toNat) ?_ ?_))))))
      · obtain ⟨c, hcc⟩ := exists_nat_of_nonneg hp'.1
        rw [hcc, toNat_nat]; exact impl_gain_eq _ c (by omega) (by omega)
      · rw [w64 (by omega) (by omega)]; exact hn
    · have hi' : i < l.length := by omega
      refine Ev.succ ?_
      simp only [impl_ValueOf.l0]
      rw [offer_rd l i hi', ← gl_get l i hi']
      exact Ev.pos (by omega) (Ev.pos (by omega) (Ev.pos (by omega) (Ev.pos (by omega) (Ev.bind0 (impl_within_eq _ _ _) (Ev.neg (by have h2 := hp; unfold inAt at h2; rw [h2]; simp) (Ev.now _))))))
    · refine Ev.succ ?_; simp only [impl_ValueOf.l0]; exact Ev.neg (by omega) (Ev.now _)
  · rw [decide_eq_false hl, Bool.false_and]; exact no _ (by simp; omega)

theorem spec_ValueOf_ev (l : List S53) (cs : List Int) (h : l.length ≤ 1048576) (hg : ∀ o ∈ l, o.f0.length ≤ 1048576) (hc : cs.length ≤ 1048576) : Ev (fun k => spec_ValueOf.f k l cs) (valF l cs) := by
  unfold spec_ValueOf.f valF valOk
  have no : ∀ x : Bool, x = true → Ev (fun k => spec_ValueOf.j0 k l cs x) (0, false) := fun x hx => by
    refine Ev.succ ?_; simp only [spec_ValueOf.j0]; exact Ev.pos hx (Ev.now _)
  refine Ev.bind (spec_GoodOffers_ev l h hg) (Ev.ite (fun h1 => ?_) (fun h1 => by rw [Bool.eq_false_iff.mpr h1]; exact no _ rfl))
  obtain ⟨h12, hgs⟩ := (offersOk_iff l).mp h1
  rw [gl_len] at hgs
  rw [h1, Bool.true_and]
  by_cases hl : cs.length = l.length
  · rw [decide_eq_true hl, Bool.true_and]
    refine Ev.succ ?_
    simp only [spec_ValueOf.j0]
    refine Ev.neg (by simp; omega) ?_
    refine ev_all cs.length (inAt l cs) (fun k i => spec_ValueOf.l0 k l (valTo l cs i) cs (cs.length : Int) (i : Int)) (valTo l cs cs.length, true) (0, false) (fun r i hi hp hn => ?_) (fun i hi hp => ?_) (fun _ => ?_) _ (allTo_iff _ _)
    · have hi' : i < l.length := by omega
      have hgi := hgs i hi'
      have hgl : ((gl l).getD i []).length ≤ 6 := by simp only [okO, Bool.and_eq_true, decide_eq_true_eq] at hgi; exact hgi.1
      have b := valTo_bound cs h1 i (by omega)
      have b2 := gainN_bound hgi (rd cs (i : Int)).toNat
      have hp' := hp
      unfold inAt at hp'
      rw [Bool.and_eq_true, decide_eq_true_eq, decide_eq_true_eq] at hp'
      refine Ev.succ ?_
      simp only [spec_ValueOf.l0]
      rw [w64n hi (by omega), offer_rd l i hi', ← gl_get l i hi']
      refine Ev.pos (by omega) (Ev.pos (by omega) (Ev.pos (by omega) (Ev.pos (by omega) (Ev.bind0 (spec_l1In_eq _ _ _) (Ev.pos hp (Ev.bind0 (a := gainN ((gl l).getD i []) (rd cs (i : Int)).toNat) ?_ ?_))))))
      · obtain ⟨c, hcc⟩ := exists_nat_of_nonneg hp'.1
        rw [hcc, toNat_nat]; exact spec_gain_eq _ c (by omega) (by omega)
      · rw [w64 (by omega) (by omega)]; exact hn
    · have hi' : i < l.length := by omega
      refine Ev.succ ?_
      simp only [spec_ValueOf.l0]
      rw [offer_rd l i hi', ← gl_get l i hi']
      exact Ev.pos (by omega) (Ev.pos (by omega) (Ev.pos (by omega) (Ev.pos (by omega) (Ev.bind0 (spec_l1In_eq _ _ _) (Ev.neg (by have h2 := hp; unfold inAt at h2; rw [h2]; simp) (Ev.now _))))))
    · refine Ev.succ ?_; simp only [spec_ValueOf.l0]; exact Ev.neg (by omega) (Ev.now _)
  · rw [decide_eq_false hl, Bool.false_and]; exact no _ (by simp; omega)

def maxTo (g : List Int) : Nat → Int
  | 0 => 0
  | i + 1 => max (maxTo g i) (rd g (i : Int))
theorem maxTo_ge (g : List Int) (n : Nat) : 0 ≤ maxTo g n ∧ ∀ i : Nat, i < n → rd g (i : Int) ≤ maxTo g n := by
  induction n with
  | zero => exact ⟨Int.le_refl _, fun i hi => by omega⟩
  | succ n ih =>
    simp only [maxTo]
    refine ⟨by omega, fun i hi => ?_⟩
    rcases Nat.lt_or_ge i n with h | h
    · have := ih.2 i h; omega
    · obtain rfl : i = n := by omega
      omega
theorem maxTo_le {g : List Int} (h : okO g = true) (n : Nat) (hn : n ≤ g.length) : maxTo g n ≤ 1000 := by
  simp only [okO, Bool.and_eq_true, decide_eq_true_eq, allIn_iff] at h
  induction n with
  | zero => simp [maxTo]
  | succ n ih =>
    have := ih (by omega)
    have h1 := h.2 _ (List.getElem_mem (show n < g.length by omega))
    simp only [maxTo]; rw [rd_nat g n (by omega)]; omega
theorem gain_le_max (g : List Int) (c : Nat) (h : c ≤ g.length) : gainN g c ≤ maxTo g g.length := by
  have h1 := maxTo_ge g g.length
  unfold gainN
  split
  · omega
  · exact h1.2 _ (by omega)
def boundTo (l : List S53) (i : Nat) : Int := sumN (fun j => maxTo ((gl l).getD j []) ((gl l).getD j []).length) i
theorem boundTo_bound {l : List S53} (h : offersOk l = true) (i : Nat) (hi : i ≤ l.length) : 0 ≤ boundTo l i ∧ boundTo l i ≤ 1000 * (i : Int) := by
  obtain ⟨h12, hg⟩ := (offersOk_iff l).mp h
  rw [gl_len] at hg
  induction i with
  | zero => simp [boundTo, sumN]
  | succ i ih =>
    have := ih (by omega)
    have h2 := (maxTo_ge ((gl l).getD i []) ((gl l).getD i []).length).1
    have h3 := maxTo_le (hg i (by omega)) _ (Nat.le_refl _)
    have e : boundTo l (i + 1) = boundTo l i + maxTo ((gl l).getD i []) ((gl l).getD i []).length := rfl
    rw [e]; omega
def boundF (l : List S53) (p : Int) : Int × Bool := if offered l p = true then (boundTo l l.length, true) else (0, false)
theorem val_le_bound {l : List S53} {d : Nat → Nat} (h : Counts (gl l) l.length d) : valN (gl l) d l.length ≤ boundTo l l.length := sumN_le fun i hi => gain_le_max _ _ (h.le i hi)

theorem slices_Max_ev (g : List Int) (hg : g.length ≤ 1048576) : Ev (fun k => slices_Max_int_int.f k ([0] ++ g)) (maxTo g g.length) := by
  unfold slices_Max_int_int.f
  refine Ev.neg (by simp <;> omega) (Ev.pos (by simp <;> omega) ?_)
  have key := ev_up g.length (fun k i => slices_Max_int_int.l0 k ([0] ++ g) (maxTo g i) ((i + 1 : Nat) : Int)) (maxTo g g.length) (fun _ => True) trivial ?_ ?_
  · simpa [maxTo, rd] using key
  · intro _; refine Ev.succ ?_; simp only [slices_Max_int_int.l0]; exact Ev.neg (by simp <;> omega) (Ev.now _)
  · intro i hi _ hn
    have hn := hn trivial
    have e : rd ([0] ++ g) ((i + 1 : Nat) : Int) = rd g (i : Int) := by
      rw [rd_nat _ (i + 1) (by simp; omega), rd_nat g i hi, List.getElem_append_right (by simp)]
      simp
    refine Ev.succ ?_
    simp only [slices_Max_int_int.l0]
    rw [e, mx_max, w64 (by omega) (by omega), show ((i + 1 : Nat) : Int) + 1 = ((i + 1 + 1 : Nat) : Int) by omega]
    exact Ev.pos (by simp <;> omega) (Ev.pos (by omega) hn)
theorem impl_BoundOf_ev (l : List S53) (p : Int) (h : l.length ≤ 1048576) (hg : ∀ o ∈ l, o.f0.length ≤ 1048576) : Ev (fun k => impl_BoundOf.f k l p) (boundF l p) := by
  unfold impl_BoundOf.f boundF
  refine Ev.bind (impl_isOffered_ev l p h hg) (Ev.ite (fun h1 => ?_) (fun h1 => by rw [if_neg h1]; exact Ev.now _))
  rw [if_pos h1]
  simp only [offered, Bool.and_eq_true, decide_eq_true_eq] at h1
  obtain ⟨h12, hgs⟩ := (offersOk_iff l).mp h1.1
  rw [gl_len] at hgs
  refine ev_up l.length (fun k i => impl_BoundOf.l0 k (boundTo l i) l (l.length : Int) (i : Int)) _ (fun _ => True) trivial ?_ ?_
  · intro _; refine Ev.succ ?_; simp only [impl_BoundOf.l0]; exact Ev.neg (by omega) (Ev.now _)
  · intro i hi _ hn
    have hn := hn trivial
    have hgi := hgs i hi
    have hgl : ((gl l).getD i []).length ≤ 6 := by simp only [okO, Bool.and_eq_true, decide_eq_true_eq] at hgi; exact hgi.1
    have b := boundTo_bound h1.1 i (by omega)
    have b1 := (maxTo_ge ((gl l).getD i []) ((gl l).getD i []).length).1
    have b2 := maxTo_le hgi _ (Nat.le_refl _)
    refine Ev.succ ?_
    simp only [impl_BoundOf.l0]
    rw [w64n hi (by omega), offer_rd l i hi, ← gl_get l i hi]
    refine Ev.pos (by omega) (Ev.pos (by omega) (Ev.pos (by omega) (Ev.bind0 rfl (Ev.pos (by show 1 + ((gl l).getD i []).length < _; omega) (Ev.bind (slices_Max_ev _ (by omega)) ?_)))))
    rw [w64 (by omega) (by omega)]; exact hn

theorem spec_BoundOf_ev (l : List S53) (p : Int) (h : l.length ≤ 1048576) (hg : ∀ o ∈ l, o.f0.length ≤ 1048576) : Ev (fun k => spec_BoundOf.f k l p) (boundF l p) := by
  unfold spec_BoundOf.f boundF offered
  have no : ∀ x : Bool, x = true → Ev (fun k => spec_BoundOf.j0 k l x) (0, false) := fun x hx => by
    refine Ev.succ ?_; simp only [spec_BoundOf.j0]; exact Ev.pos hx (Ev.now _)
  have pl : spec_l6Places.f p = some (decide (0 ≤ p) && decide (p ≤ 40)) := by unfold spec_l6Places.f; rw [spec_l1In_eq]; rfl
  refine Ev.bind (spec_GoodOffers_ev l h hg) (Ev.ite (fun h1 => Ev.bind0 pl ?_) (fun h1 => by rw [Bool.eq_false_iff.mpr h1]; exact no _ rfl))
  rw [h1, Bool.true_and]
  cases hp : (decide (0 ≤ p) && decide (p ≤ 40)) with
  | false => exact no _ rfl
  | true =>
    rw [if_pos rfl]
    obtain ⟨h12, hgs⟩ := (offersOk_iff l).mp h1
    rw [gl_len] at hgs
    refine Ev.succ ?_
    simp only [spec_BoundOf.j0]
    refine Ev.neg (by simp) ?_
    refine ev_up l.length (fun k i => spec_BoundOf.l0 k (boundTo l i) l (l.length : Int) (i : Int)) _ (fun _ => True) trivial ?_ ?_
    · intro _; refine Ev.succ ?_; simp only [spec_BoundOf.l0]; exact Ev.neg (by omega) (Ev.now _)
    · intro i hi _ hn
      have hn := hn trivial
      have hgi := hgs i hi
      have hgl : ((gl l).getD i []).length ≤ 6 := by simp only [okO, Bool.and_eq_true, decide_eq_true_eq] at hgi; exact hgi.1
      have b := boundTo_bound h1 i (by omega)
      have b1 := (maxTo_ge ((gl l).getD i []) ((gl l).getD i []).length).1
      have b2 := maxTo_le hgi _ (Nat.le_refl _)
      refine Ev.succ ?_
      simp only [spec_BoundOf.l0]
      rw [offer_rd l i hi, ← gl_get l i hi]
      refine Ev.pos (by omega) (Ev.pos (by omega) (Ev.pos (by omega) ?_))
      refine ev_up ((gl l).getD i []).length (fun k j => spec_BoundOf.l1 k (boundTo l i) (maxTo ((gl l).getD i []) j) l (l.length : Int) (i : Int) ((gl l).getD i []) (((gl l).getD i []).length : Int) (j : Int)) _ (fun _ => True) trivial ?_ ?_
      · intro _
        refine Ev.succ ?_
        simp only [spec_BoundOf.l1]
        rw [w64n hi (by omega), w64 (x := boundTo l i + maxTo ((gl l).getD i []) ((gl l).getD i []).length) (by omega) (by omega)]
        exact Ev.neg (by omega) hn
      · intro j hj _ hn
        have hn := hn trivial
        refine Ev.succ ?_
        simp only [spec_BoundOf.l1]
        rw [w64n hj (by omega)]
        simp only [maxTo] at hn
        refine Ev.pos (by omega) (Ev.pos (by omega) (Ev.pos (by omega) (Ev.ite (fun h => ?_) (fun h => ?_))))
        · rw [show max (maxTo ((gl l).getD i []) j) (rd ((gl l).getD i []) (j : Int)) = rd ((gl l).getD i []) (j : Int) by omega] at hn; exact hn
        · rw [show max (maxTo ((gl l).getD i []) j) (rd ((gl l).getD i []) (j : Int)) = maxTo ((gl l).getD i []) j by omega] at hn; exact hn

theorem allIn_two (a b lo hi : Int) : allIn [a, b] lo hi = ((decide (lo ≤ a) && decide (a ≤ hi)) && (decide (lo ≤ b) && decide (b ≤ hi))) := by simp [allIn]
theorem GainsOf_ev (p f s c : Int) : ∃ (g : List Int) (ok : Bool), Ev (fun k => impl_GainsOf.f k p f s c) (g, ok) ∧ Ev (fun k => spec_GainsOf.f k p f s c) (g, ok) ∧ g.length ≤ 6 := by
  unfold impl_GainsOf.f spec_GainsOf.f
  have no1 : ∀ x : Bool, x = true → Ev (fun k => impl_GainsOf.j0 k p f s c x) ([], false) := fun x hx => by
    refine Ev.succ ?_; simp only [impl_GainsOf.j0]; exact Ev.pos hx (Ev.now _)
  have no2 : ∀ x : Bool, x = true → Ev (fun k => spec_GainsOf.j0 k p f s c x) ([], false) := fun x hx => by
    refine Ev.succ ?_; simp only [spec_GainsOf.j0]; exact Ev.pos hx (Ev.now _)
  have a1 := impl_allWithin_ev [p, f] 0 100 (by simp)
  have a2 := impl_allWithin_ev [s, c] 0 10 (by simp)
  rw [allIn_two] at a1 a2
  have loop : ∀ (d n : Nat) (x : List Int), n + d = 7 → 1 ≤ n → x.length + 1 = n → ∃ (g : List Int) (ok : Bool), Ev (fun k => impl_GainsOf.l0 k p f s c (n : Int) x) (g, ok) ∧ Ev (fun k => spec_GainsOf.l0 k p f s c (n : Int) x) (g, ok) ∧ g.length ≤ 6 := by
    intro d
    induction d with
    | zero =>
      intro n x hn h1 hx
      have e1 := impl_isOffer_ev x (by omega)
      have e2 := spec_GoodOffers_ev [⟨x⟩] (by simp) (fun o ho => by rw [List.mem_singleton] at ho; subst ho; show x.length ≤ _; omega)
      have e3 : offersOk [⟨x⟩] = okO x := by simp [offersOk]
      rw [e3] at e2
      cases hb : okO x with
      | true =>
        rw [hb] at e1 e2
        refine ⟨x, true, ?_, ?_, by omega⟩
        · refine Ev.succ ?_; simp only [impl_GainsOf.l0]; exact Ev.neg (by omega) (Ev.bind e1 (Ev.pos rfl (Ev.now _)))
        · refine Ev.succ ?_; simp only [spec_GainsOf.l0]; exact Ev.neg (by omega) (Ev.bind e2 (Ev.pos rfl (Ev.now _)))
      | false =>
        rw [hb] at e1 e2
        refine ⟨[], false, ?_, ?_, by simp⟩
        · refine Ev.succ ?_; simp only [impl_GainsOf.l0]; exact Ev.neg (by omega) (Ev.bind e1 (Ev.neg (by simp) (Ev.now _)))
        · refine Ev.succ ?_; simp only [spec_GainsOf.l0]; exact Ev.neg (by omega) (Ev.bind e2 (Ev.neg (by simp) (Ev.now _)))
    | succ d ih =>
      intro n x hn h1 hx
      obtain ⟨g, ok, h2, h3, h4⟩ := ih (n + 1) (x ++ [wrap64 ((wrap64 (s * p)) - (wrap64 (Int.tdiv (wrap64 ((wrap64 ((wrap64 (c * f)) + (n : Int))) - 1)) (n : Int))))]) (by omega) (by omega) (by simp; omega)
      refine ⟨g, ok, ?_, ?_, h4⟩
      · refine Ev.succ ?_
        simp only [impl_GainsOf.l0]
        rw [w64 (x := (n : Int) + 1) (by omega) (by omega)]
        exact Ev.pos (by omega) (Ev.neg (by omega) (Ev.pos (by omega) h2))
      · refine Ev.succ ?_
        simp only [spec_GainsOf.l0]
        rw [w64 (x := (n : Int) + 1) (by omega) (by omega)]
        exact Ev.pos (by omega) (Ev.neg (by omega) (Ev.pos (by omega) h3))
  by_cases q1 : (decide (0 ≤ p) && decide (p ≤ 100)) = true
  · by_cases q2 : (decide (0 ≤ f) && decide (f ≤ 100)) = true
    · rw [q1, q2] at a1
      by_cases q3 : (decide (0 ≤ s) && decide (s ≤ 10)) = true
      · by_cases q4 : (decide (0 ≤ c) && decide (c ≤ 10)) = true
        · rw [q3, q4] at a2
          obtain ⟨g, ok, h1, h2, h3⟩ := loop 6 1 [] rfl (by omega) rfl
          refine ⟨g, ok, Ev.bind a1 (Ev.pos rfl (Ev.bind a2 (Ev.succ ?_))), Ev.bind0 (spec_l1In_eq _ _ _) (Ev.pos q1 (Ev.bind0 (spec_l1In_eq _ _ _) (Ev.pos q2 (Ev.bind0 (spec_l1In_eq _ _ _) (Ev.pos q3 (Ev.bind0 (spec_l1In_eq _ _ _) (Ev.succ ?_))))))), h3⟩
          · simp only [impl_GainsOf.j0]; exact Ev.neg (by simp) h1
          · simp only [spec_GainsOf.j0]; exact Ev.neg (by rw [q4]; simp) h2
        · have q4 := Bool.eq_false_iff.mpr q4
          rw [q3, q4] at a2
          exact ⟨[], false, Ev.bind a1 (Ev.pos rfl (Ev.bind a2 (no1 _ rfl))), Ev.bind0 (spec_l1In_eq _ _ _) (Ev.pos q1 (Ev.bind0 (spec_l1In_eq _ _ _) (Ev.pos q2 (Ev.bind0 (spec_l1In_eq _ _ _) (Ev.pos q3 (Ev.bind0 (spec_l1In_eq _ _ _) (no2 _ (by rw [q4]; rfl)))))))), by simp⟩
      · have q3' := Bool.eq_false_iff.mpr q3
        rw [q3', Bool.false_and] at a2
        exact ⟨[], false, Ev.bind a1 (Ev.pos rfl (Ev.bind a2 (no1 _ rfl))), Ev.bind0 (spec_l1In_eq _ _ _) (Ev.pos q1 (Ev.bind0 (spec_l1In_eq _ _ _) (Ev.pos q2 (Ev.bind0 (spec_l1In_eq _ _ _) (Ev.neg q3 (no2 _ rfl)))))), by simp⟩
    · have q2' := Bool.eq_false_iff.mpr q2
      rw [q1, q2'] at a1
      exact ⟨[], false, Ev.bind a1 (Ev.neg (by simp) (no1 _ rfl)), Ev.bind0 (spec_l1In_eq _ _ _) (Ev.pos q1 (Ev.bind0 (spec_l1In_eq _ _ _) (Ev.neg q2 (no2 _ rfl)))), by simp⟩
  · have q1' := Bool.eq_false_iff.mpr q1
    rw [q1', Bool.false_and] at a1
    exact ⟨[], false, Ev.bind a1 (Ev.neg (by simp) (no1 _ rfl)), Ev.bind0 (spec_l1In_eq _ _ _) (Ev.neg q1 (no2 _ rfl)), by simp⟩

theorem cur_offer (l : List Int) (a s : Int) (hl : bytesOk l) (ha : 0 ≤ a ∧ a ≤ 4611686018427380000) :
    ∃ (g : List Int) (a' s' : Int), Ev (fun k => spec_l1Cur_offer.f k l a s) (g, a', s') ∧ g.length ≤ 100 ∧ a ≤ a' ∧ a' ≤ a + 100 := by
  have loop : ∀ (n : Nat) (x : List Int) (a s : Int), x.length + n ≤ 90 → (0 ≤ a ∧ a + 2 * n + 10 ≤ 4611686018427387000) →
      ∃ (r : List Int) (a' s' : Int), Ev (fun k => spec_l1Cur_offer.l0 k (n : Int) l a s x) (r, a', s') ∧ r.length ≤ 100 ∧ a ≤ a' ∧ a' ≤ a + 2 * n + 10 := by
    intro n
    induction n with
    | zero =>
      intro x a s hx ha
      obtain ⟨b, a1, s1, e1, q1, q2⟩ := cur_one l a s 40 hl (by omega)
      cases b with
      | true =>
        obtain ⟨m, a2, s2, e2, m1, m2, m3⟩ := cur_among l a1 s1 [1000, 1001, -1000, -1001] hl (by omega) (by simp)
        refine ⟨x ++ [m], a2, s2, Ev.succ ?_, by simp; omega, by omega, by omega⟩
        simp only [spec_l1Cur_offer.l0]
        exact Ev.neg (by omega) (Ev.bind0 e1 (Ev.pos rfl (Ev.bind0 e2 (Ev.pos (by omega) (Ev.now _)))))
      | false =>
        refine ⟨x, a1, s1, Ev.succ ?_, by omega, by omega, by omega⟩
        simp only [spec_l1Cur_offer.l0]
        exact Ev.neg (by omega) (Ev.bind0 e1 (Ev.neg (by simp) (Ev.now _)))
    | succ n ih =>
      intro x a s hx ha
      obtain ⟨p, a1, s1, e1, p0, p1, p2, p3⟩ := cur_pick l a s 31 hl (by omega)
      obtain ⟨r, a2, s2, hE, h1, h2, h3⟩ := ih (x ++ [wrap64 (p - 10)]) a1 s1 (by simp; omega) (by omega)
      refine ⟨r, a2, s2, Ev.succ ?_, h1, by omega, by omega⟩
      simp only [spec_l1Cur_offer.l0]
      rw [w64 (x := ((n + 1 : Nat) : Int) - 1) (by omega) (by omega), show ((n + 1 : Nat) : Int) - 1 = (n : Int) by omega]
      exact Ev.pos (by omega) (Ev.bind0 e1 (Ev.pos (by omega) hE))
  unfold spec_l1Cur_offer.f
  obtain ⟨b, a1, s1, e1, q1, q2⟩ := cur_one l a s 3 hl (by omega)
  cases b with
  | true =>
    obtain ⟨p, a2, s2, e2, p0, p1, p2, p3⟩ := cur_pick l a1 s1 20 hl (by omega)
    obtain ⟨f, a3, s3, e3, f0, f1, f2, f3⟩ := cur_pick l a2 s2 20 hl (by omega)
    obtain ⟨q, a4, s4, e4, c0, c1, c2, c3⟩ := cur_pick l a3 s3 4 hl (by omega)
    obtain ⟨r, a5, s5, e5, r0, r1, r2, r3⟩ := cur_pick l a4 s4 4 hl (by omega)
    obtain ⟨g, ok, _, hS, hg⟩ := GainsOf_ev p (wrap64 (1 + f)) (wrap64 (1 + q)) (wrap64 (1 + r))
    exact ⟨g, a5, s5, Ev.bind0 e1 (Ev.pos rfl (Ev.bind0 e2 (Ev.bind0 e3 (Ev.bind0 e4 (Ev.bind0 e5 (Ev.bind hS (Ev.now _))))))), by omega, by omega, by omega⟩
  | false =>
    obtain ⟨n, a2, s2, e2, n0, n1, n2, n3⟩ := cur_pick l a1 s1 5 hl (by omega)
    obtain ⟨n', rfl⟩ := exists_nat_of_nonneg n0
    obtain ⟨r, a3, s3, hE, h1, h2, h3⟩ := loop n' [] a2 s2 (by simp; omega) (by omega)
    exact ⟨r, a3, s3, Ev.bind0 e1 (Ev.neg (by simp) (Ev.bind0 e2 hE)), h1, by omega, by omega⟩
theorem cur_offers (l : List Int) (a s : Int) (hl : bytesOk l) (ha : 0 ≤ a ∧ a ≤ 4611686018427300000) :
    ∃ (r : List S53) (a' s' : Int), Ev (fun k => spec_l1Cur_offers.f k l a s) (r, a', s') ∧ r.length ≤ 100 ∧ (∀ o ∈ r, o.f0.length ≤ 100) ∧ a ≤ a' ∧ a' ≤ a + 10000 := by
  have loop : ∀ (n : Nat) (x : List S53) (a s : Int), x.length + n ≤ 100 → (∀ o ∈ x, o.f0.length ≤ 100) → (0 ≤ a ∧ a + 100 * n + 10 ≤ 4611686018427380000) →
      ∃ (r : List S53) (a' s' : Int), Ev (fun k => spec_l1Cur_offers.l0 k x (n : Int) l a s) (r, a', s') ∧ r.length ≤ 100 ∧ (∀ o ∈ r, o.f0.length ≤ 100) ∧ a ≤ a' ∧ a' ≤ a + 100 * n := by
    intro n
    induction n with
    | zero =>
      intro x a s hx hg ha
      refine ⟨x, a, s, Ev.succ ?_, by omega, hg, by omega, by omega⟩
      simp only [spec_l1Cur_offers.l0]
      exact Ev.neg (by omega) (Ev.now _)
    | succ n ih =>
      intro x a s hx hg ha
      obtain ⟨g, a1, s1, e1, g1, g2, g3⟩ := cur_offer l a s hl (by omega)
      obtain ⟨r, a2, s2, hE, h1, h2, h3, h4⟩ := ih (x ++ [⟨g⟩]) a1 s1 (by simp; omega) (fun o ho => by
        rcases List.mem_append.mp ho with h | h
        · exact hg o h
        · rw [List.mem_singleton] at h; subst h; exact g1) (by omega)
      refine ⟨r, a2, s2, Ev.succ ?_, h1, h2, by omega, by omega⟩
      simp only [spec_l1Cur_offers.l0]
      rw [w64 (x := ((n + 1 : Nat) : Int) - 1) (by omega) (by omega), show ((n + 1 : Nat) : Int) - 1 = (n : Int) by omega]
      exact Ev.pos (by omega) (Ev.bind e1 (Ev.pos (by omega) hE))
  unfold spec_l1Cur_offers.f
  obtain ⟨n, a1, s1, e1, n0, n1, n2, n3⟩ := cur_pick l a s 5 hl (by omega)
  obtain ⟨b, a2, s2, e2, b1, b2⟩ := cur_one l a1 s1 20 hl (by omega)
  cases b with
  | true =>
    obtain ⟨p, a3, s3, e3, p0, p1, p2, p3⟩ := cur_pick l a2 s2 2 hl (by omega)
    obtain ⟨n', hn'⟩ := exists_nat_of_nonneg (show 0 ≤ 12 + p by omega)
    obtain ⟨r, a4, s4, hE, h1, h2, h3, h4⟩ := loop n' [] a3 s3 (by simp; omega) (by simp) (by omega)
    refine ⟨r, a4, s4, Ev.bind0 e1 (Ev.bind0 e2 (Ev.pos rfl (Ev.bind0 e3 (Ev.succ ?_)))), h1, h2, by omega, by omega⟩
    simp only [spec_l1Cur_offers.j0]
    rw [w64 (by omega) (by omega), hn']; exact hE
  | false =>
    obtain ⟨n', rfl⟩ := exists_nat_of_nonneg n0
    obtain ⟨r, a4, s4, hE, h1, h2, h3, h4⟩ := loop n' [] a2 s2 (by simp; omega) (by simp) (by omega)
    refine ⟨r, a4, s4, Ev.bind0 e1 (Ev.bind0 e2 (Ev.neg (by simp) (Ev.succ ?_))), h1, h2, by omega, by omega⟩
    simp only [spec_l1Cur_offers.j0]; exact hE

theorem cur_few (l : List Int) (a s : Int) (hl : bytesOk l) (ha : 0 ≤ a ∧ a ≤ 4611686018427300000) : ∃ (r a' s' : Int), spec_l1Cur_fewPlaces.f l a s = some (r, a', s') ∧ a ≤ a' ∧ a' ≤ a + 10 := by
  unfold spec_l1Cur_fewPlaces.f
  obtain ⟨b, a1, s1, e1, b1, b2⟩ := cur_one l a s 12 hl (by omega)
  rw [e1]
  cases b with
  | true =>
    obtain ⟨m, a2, s2, e2, m1, m2, m3⟩ := cur_among l a1 s1 [-1, 40, 41] hl (by omega) (by simp)
    exact ⟨m, a2, s2, by simp only [Option.bind_some, if_true, e2], by omega, by omega⟩
  | false =>
    obtain ⟨m, a2, s2, e2, m0, m1, m2, m3⟩ := cur_pick l a1 s1 9 hl (by omega)
    exact ⟨m, a2, s2, by simp only [Option.bind_some, Bool.false_eq_true, if_false, e2], by omega, by omega⟩

theorem spec_DrawBestTable_ev (l : List Int) (hl : bytesOk l) : ∃ (r : List S53) (p : Int), Ev (fun k => spec_DrawBestTable.f k l) (r, p) ∧ r.length ≤ 100 ∧ (∀ o ∈ r, o.f0.length ≤ 100) := by
  unfold spec_DrawBestTable.f
  obtain ⟨r, a1, s1, e1, h1, h2, h3, h4⟩ := cur_offers l 0 0 hl (by omega)
  obtain ⟨p, a2, s2, e2, _⟩ := cur_few l a1 s1 hl (by omega)
  exact ⟨r, p, Ev.bind e1 (Ev.bind0 e2 (Ev.now _)), h1, h2⟩

theorem spec_DrawBestChoice_ev (l : List Int) (hl : bytesOk l) : ∃ (r : List S53) (p : Int), Ev (fun k => spec_DrawBestChoice.f k l) (r, p) ∧ r.length ≤ 100 ∧ (∀ o ∈ r, o.f0.length ≤ 100) := by
  unfold spec_DrawBestChoice.f
  obtain ⟨r, p, e, h1, h2⟩ := spec_DrawBestTable_ev l hl
  exact ⟨r, p, Ev.bind e (Ev.now _), h1, h2⟩
theorem spec_DrawValueOf_ev (l : List Int) (hl : bytesOk l) : ∃ (r : List S53) (c : List Int), Ev (fun k => spec_DrawValueOf.f k l) (r, c) ∧ r.length ≤ 100 ∧ (∀ o ∈ r, o.f0.length ≤ 100) ∧ c.length ≤ 200 := by
  unfold spec_DrawValueOf.f
  obtain ⟨r, a1, s1, e1, h1, h2, h3, h4⟩ := cur_offers l 0 0 hl (by omega)
  have loop : ∀ (d i : Nat) (x : List Int) (a s : Int), i + d = r.length → x.length = i → (0 ≤ a ∧ a + 2 * d + 10 ≤ 4611686018427380000) →
      ∃ (c : List Int), Ev (fun k => spec_DrawValueOf.l0 k r x r (r.length : Int) (i : Int) l a s) (r, c) ∧ c.length ≤ 200 := by
    intro d
    induction d with
    | zero =>
      intro i x a s hi hx ha
      by_cases h0 : (x.length : Int) > 0
      · obtain ⟨b, a2, s2, e2, b1, b2⟩ := cur_one l a s 12 hl (by omega)
        cases b with
        | true =>
          obtain ⟨p, a3, s3, e3, p0, p1, p2, p3⟩ := cur_pick l a2 s2 9 hl (by omega)
          refine ⟨x.set (0 : Int).toNat (wrap64 (p - 1)), Ev.succ ?_, by rw [List.length_set]; omega⟩
          simp only [spec_DrawValueOf.l0]
          exact Ev.neg (by omega) (Ev.pos h0 (Ev.bind0 e2 (Ev.pos rfl (Ev.bind0 e3 (Ev.pos (by omega) (Ev.now _))))))
        | false =>
          refine ⟨x, Ev.succ ?_, by omega⟩
          simp only [spec_DrawValueOf.l0]
          exact Ev.neg (by omega) (Ev.pos h0 (Ev.bind0 e2 (Ev.neg (by simp) (Ev.now _))))
      · refine ⟨x, Ev.succ ?_, by omega⟩
        simp only [spec_DrawValueOf.l0]
        exact Ev.neg (by omega) (Ev.neg h0 (Ev.now _))
    | succ d ih =>
      intro i x a s hi hx ha
      have hi' : i < r.length := by omega
      obtain ⟨p, a2, s2, e2, p0, p1, p2, p3⟩ := cur_pick l a s (wrap64 (((rd_T53 r (i : Int)).f0.length : Int) + 1)) hl (by omega)
      obtain ⟨c, hE, hc⟩ := ih (i + 1) (x ++ [p]) a2 s2 (by omega) (by simp; exact hx) (by omega)
      refine ⟨c, Ev.succ ?_, hc⟩
      simp only [spec_DrawValueOf.l0]
      rw [w64n hi' (by omega)]
      exact Ev.pos (by omega) (Ev.pos (by omega) (Ev.pos (by omega) (Ev.bind0 e2 (Ev.pos (by omega) hE))))
  obtain ⟨c, hE, hc⟩ := loop r.length 0 [] a1 s1 (by omega) rfl (by omega)
  exact ⟨r, c, Ev.bind e1 hE, h1, h2, hc⟩
theorem spec_DrawGainsOf_eq (l : List Int) (hl : bytesOk l) : ∃ p f s c : Int, spec_DrawGainsOf.f l = some (p, f, s, c) := by
  unfold spec_DrawGainsOf.f
  obtain ⟨p, a1, s1, e1, _, p2, p3⟩ := cur_among l 0 0 [0, 1, 50, 100, 101] hl (by omega) (by simp)
  obtain ⟨f, a2, s2, e2, _, f2, f3⟩ := cur_among l a1 s1 [0, 7, 100, -1] hl (by omega) (by simp)
  obtain ⟨s, a3, s3, e3, q0, q1, q2, q3⟩ := cur_pick l a2 s2 12 hl (by omega)
  obtain ⟨c, a4, s4, e4, _⟩ := cur_pick l a3 s3 12 hl (by omega)
  exact ⟨p, f, s, c, by rw [e1]; simp only [Option.bind_some]; rw [e2]; simp only [Option.bind_some]; rw [e3]; simp only [Option.bind_some]; rw [e4]; rfl⟩

theorem choice_rest (l : List Int) (hl : bytesOk l) : Ev (fun k => laws_FnChoice.j3 k l) true := by
  obtain ⟨r, c, e1, h1, h2, h3⟩ := spec_DrawValueOf_ev l hl
  obtain ⟨p, f, s, q, e2⟩ := spec_DrawGainsOf_eq l hl
  obtain ⟨g, ok, hI, hS, hg⟩ := GainsOf_ev p f s q
  have hr : ∀ o ∈ r, o.f0.length ≤ 1048576 := fun o ho => by have := h2 o ho; omega
  refine Ev.succ ?_
  simp only [laws_FnChoice.j3]
  refine Ev.bind e1 (Ev.bind (impl_ValueOf_ev r c (by omega) hr (by omega)) (Ev.bind (spec_ValueOf_ev r c (by omega) hr (by omega)) (Ev.bind0 e2 (Ev.bind hI (Ev.bind hS (Ev.pos (by simp) (Ev.pos rfl (Ev.pos (by simp) (Ev.bind (a := true) ?_ (Ev.now _))))))))))
  unfold laws_sameOffers.f
  refine Ev.pos rfl (Ev.succ ?_)
  simp only [laws_sameOffers.l0]
  refine Ev.pos (by simp) (Ev.pos (by omega) (Ev.pos (by simp) (Ev.pos (by simp) (Ev.bind (a := true) ?_ (Ev.pos rfl (Ev.succ ?_))))))
  · exact laws_same_ev g (by omega)
  · simp only [laws_sameOffers.l0]
    rw [w64 (x := (0 : Int) + 1) (by omega) (by omega)]
    exact Ev.neg (by simp) (Ev.now _)
theorem choice_value {l : List S53} {P : Nat} (hok : offersOk l = true) {cs : List Int} {d : Nat → Nat} (hl : cs.length = l.length) (hd : ∀ j : Nat, j < l.length → rd cs (j : Int) = (d j : Int)) (hc : Counts (gl l) l.length d) : valF l cs = (valN (gl l) d l.length, true) := by
  have h1 : valOk l cs = true := by
    unfold valOk
    rw [hok, decide_eq_true hl, (allTo_iff _ _).mpr]; rfl
    intro i hi
    have := hc.le i (by omega)
    unfold inAt
    rw [hd i (by omega), decide_eq_true (by omega), decide_eq_true (by omega)]; rfl
  unfold valF
  rw [if_pos h1, hl]
  congr 1
  exact sumN_congr fun i hi => by rw [hd i hi, toNat_nat]
theorem choice_others (l1 : List Int) (hb : bytesOk l1) (h1 : l1.length ≤ 1048576) (l : List S53) (hl : l.length ≤ 100) (hg : ∀ o ∈ l, o.f0.length ≤ 100) (P : Nat) (hP : P ≤ 40) (hok : offersOk l = true) :
    ∀ (e i : Nat) (x : List Int) (d : Nat → Nat) (left : Nat), i + e = l1.length → x.length = l.length → (∀ j : Nat, j < l.length → rd x (j : Int) = (d j : Int)) → Counts (gl l) l.length d → plN d l.length + left = P →
    Ev (fun k => laws_FnChoice.l0 k l1 l (rd (rowAt (gl l) P l.length) (P : Int)) x (left : Int) l1 (l1.length : Int) (i : Int)) true := by
  obtain ⟨h12, hgs⟩ := (offersOk_iff l).mp hok
  rw [gl_len] at hgs
  have hr : ∀ o ∈ l, o.f0.length ≤ 1048576 := fun o ho => by have := hg o ho; omega
  have fin : ∀ (x : List Int) (d : Nat → Nat) (left : Nat), x.length = l.length → (∀ j : Nat, j < l.length → rd x (j : Int) = (d j : Int)) → Counts (gl l) l.length d → plN d l.length + left = P →
      Ev (fun k => (impl_ValueOf.f k l x).bind fun bt => (if bt.2 = true then (if bt.1 > rd (rowAt (gl l) P l.length) (P : Int) then (some false) else (laws_FnChoice.j3 k l1)) else (some false))) true := by
    intro x d left hx hd hc hp
    have hv := impl_ValueOf_ev l x (by omega) hr (by omega)
    rw [choice_value (P := P) hok hx hd hc] at hv
    have hm := rowAt_most (gl l) P d l.length P hc (by omega) (Nat.le_refl _)
    exact Ev.bind hv (Ev.pos rfl (Ev.neg (by dsimp only; omega) (choice_rest l1 hb)))
  intro e
  induction e with
  | zero =>
    intro i x d left hi hx hd hc hp
    refine Ev.succ ?_
    simp only [laws_FnChoice.l0]
    exact Ev.neg (by omega) (fin x d left hx hd hc hp)
  | succ e ih =>
    intro i x d left hi hx hd hc hp
    have hi' : i < l1.length := by omega
    have hbi := hb l1[i] (List.getElem_mem hi')
    refine Ev.succ ?_
    simp only [laws_FnChoice.l0]
    rw [rd_nat l1 i hi', w64 (x := l1[i]) (by omega) (by omega), w64 (x := l1[i] + (i : Int)) (by omega) (by omega), w64n hi' (by omega)]
    refine Ev.pos (by omega) (Ev.pos (by omega) (Ev.pos (by omega) (Ev.ite (fun h0 => fin x d left hx hd hc hp) (fun h0 => Ev.ite (fun hpos => ?_) (fun _ => ih (i + 1) x d left (by omega) hx hd hc hp)))))
    have a0 := Int.tmod_nonneg (l.length : Int) (show 0 ≤ l1[i] + (i : Int) by omega)
    have a1 := Int.tmod_lt_of_pos (l1[i] + (i : Int)) (show (0 : Int) < (l.length : Int) by omega)
    generalize Int.tmod (l1[i] + (i : Int)) (l.length : Int) = q at a0 a1 ⊢
    obtain ⟨m, rfl⟩ := exists_nat_of_nonneg a0
    have hm : m < l.length := by omega
    have hgm := hg _ (List.getElem_mem hm)
    rw [hx, offer_rd l m hm, hd m hm, toNat_nat]
    refine Ev.pos (by omega) (Ev.pos (by omega) (Ev.pos (by omega) (Ev.ite (fun h3 => ?_) (fun _ => ih (i + 1) x d left (by omega) hx hd hc hp))))
    rw [w64 (by omega) (by omega), w64 (x := (left : Int) - 1) (by omega) (by omega), show (left : Int) - 1 = ((left - 1 : Nat) : Int) by omega]
    refine ih (i + 1) (x.set m ((d m : Int) + 1)) (fun j => if j = m then d j + 1 else d j) (left - 1) (by omega) (by simp; exact hx) (fun j hj => ?_) ⟨fun j hj => ?_⟩ ?_
    · show rd (x.set m ((d m : Int) + 1)) (j : Int) = ((if j = m then d j + 1 else d j : Nat) : Int)
      rw [rd_setc x m j _ (by omega)]
      by_cases e2 : j = m
      · subst e2; rw [if_pos rfl, if_pos rfl]; omega
      · rw [if_neg e2, if_neg e2]; exact hd j hj
    · by_cases e2 : j = m
      · subst e2; rw [if_pos rfl, gl_get l j hj]; omega
      · rw [if_neg e2]; exact hc.le j hj
    · rw [plN_bump d hm]; omega
theorem FnChoice : laws_FnChoice.Pure := by
  intro l0 l1 _ hl0 hw0 _ hl1 hw1
  have b0 := bytesOk_of l0 hw0
  have b1 := bytesOk_of l1 hw1
  refine Ev.rounds (g := fun k => laws_FnChoice.f k l0 l1) ?_
  unfold laws_FnChoice.f
  refine Ev.ite (fun _ => Ev.now _) fun hs => ?_
  rw [w64 (by omega) (by omega)] at hs
  obtain ⟨l, p, ed, hl, hg⟩ := spec_DrawBestChoice_ev l0 b0
  have hr : ∀ o ∈ l, o.f0.length ≤ 1048576 := fun o ho => by have := hg o ho; omega
  obtain ⟨cs, n, ok, hI, hS, rfl, hcl, hx⟩ := BestChoice_ev l p (by omega) hr
  refine Ev.bind ed (Ev.bind hI (Ev.bind hS (Ev.bind (impl_BoundOf_ev l p (by omega) hr) (Ev.bind (spec_BoundOf_ev l p (by omega) hr) ?_))))
  simp only [bne_self_eq_false, Bool.false_eq_true, if_false]
  refine Ev.bind (laws_same_ev cs (by omega)) (Ev.pos rfl (Ev.pos (by first | trivial | rfl) (Ev.pos (by first | trivial | rfl) (Ev.bind (impl_GoodOffers_ev l (by omega) hr) (Ev.bind (spec_GoodOffers_ev l (by omega) hr) (Ev.succ ?_))))))
  simp only [laws_FnChoice.j0, bne_self_eq_false, Bool.false_eq_true, if_false]
  refine Ev.ite (fun hok => ?_) (fun _ => choice_rest l1 b1)
  obtain ⟨P, rfl, hP, rfl, hcs, d, hd, hc, hp, hv⟩ := hx hok
  have hok' := hok
  simp only [offered, Bool.and_eq_true, decide_eq_true_eq] at hok'
  obtain ⟨ho, _⟩ := hok'
  have hb := rowAt_bound (gs := gl l) ((offersOk_iff l).mp ho).2 P l.length (by rw [gl_len]; omega) P (Nat.le_refl _)
  have ev := impl_ValueOf_ev l cs (by omega) hr (by omega)
  rw [choice_value (P := P) ho hcs hd hc, hv] at ev
  have hsum := plN_sum cs d (fun i hi => hd i (by omega))
  have hbd := val_le_bound hc
  rw [hv] at hbd
  refine Ev.bind ev (Ev.pos rfl (Ev.pos rfl (Ev.bind (laws_sumOf_ev cs 0 1048576 (fun x hx => ?_) (by omega) (by omega) (by omega)) (Ev.neg ?_ (Ev.neg (by omega) ?_)))))
  · obtain ⟨i, hi, rfl⟩ := List.getElem_of_mem hx
    have h1 := hd i (by omega)
    have h2 := hc.le i (by omega)
    have h3 : ((gl l).getD i []).length ≤ 100 := by rw [gl_get l i (by omega)]; exact hg _ (List.getElem_mem (by omega))
    rw [rd_nat cs i hi] at h1
    omega
  · rw [hsum, hcs]; omega
  · unfold boundF
    rw [if_pos hok]
    refine Ev.pos rfl (Ev.succ ?_)
    simp only [laws_FnChoice.j1]
    rw [decide_eq_false (show ¬ boundTo l l.length < rd (rowAt (gl l) P l.length) (P : Int) by omega), toNat_nat]
    refine Ev.neg (by simp) (Ev.pos (by omega) (Ev.pos (by omega) ?_))
    exact choice_others l1 b1 (by omega) l hl hg P hP ho l1.length 0 (List.replicate l.length 0) (fun _ => 0) P (by omega) (by simp) (fun j hj => by rw [rd_nat _ j (by simp; exact hj)]; simp) ⟨fun j hj => Nat.zero_le _⟩ (by
      have : plN (fun _ => 0) l.length = 0 := by
        generalize l.length = n
        induction n with
        | zero => rfl
        | succ n ih => simp only [plN]; omega
      omega)
end Go.Proofs.Ytpagpbamdpllnaa.Pure
