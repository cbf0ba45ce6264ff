/- Counts cost least just if no place is better used by another kind, for drawn counts: no condition but the statement's own. -/
import Derived.Test.YthonbjmjhegpdaaCFnStable0
import Derived.Test.YthonbjmjhegpdaaCFnStable1
set_option linter.unusedVariables false
set_option linter.unusedSimpArgs false
namespace Go.Proofs.Ythonbjmjhegpdaa.Print
open Go.RowKit Go.Proofs.YthonbjmjhegpdaaW.PrintWords Go.Proofs.YthonbjmjhegpdaaW.PrintLast Go.Proofs.YthonbjmjhegpdaaW.PrintMore
attribute [local go_sem] max2_int min2_int max_two min_two Q0 Q1 max_four min_four

mutual
def impl_IsStable.l0:Nat→List Int→List Int→Int→Int→Option (Bool×Bool)
  |0,_,_,_,_=>none
  |k+1,x0,x1,x13,x14=>if x14<x13 then (impl_IsStable.l1 k x0 x1 x14 x13 x14 (x0.length:Int) 0) else (some (true,true))
def impl_IsStable.l1:Nat→List Int→List Int→Int→Int→Int→Int→Int→Option (Bool×Bool)
  |0,_,_,_,_,_,_,_=>none
  |k+1,x0,x1,x6,x13,x14,x18,x19=>if x19<x18 then (if x6=x19 then (impl_IsStable.l1 k x0 x1 x6 x13 x14 x18 (wrap64 (x19+1))) else (if 0≤x6 then (if x6<(x1.length:Int) then (if (rd x1 x6) > 1 then (if x6<(x0.length:Int) then ((impl_gain.f k (rd x0 x6) (wrap64 ((rd x1 x6) - 1))).bind fun bt105=>(if 0≤x19 then (if x19<(x0.length:Int) then (if x19<(x1.length:Int) then ((impl_gain.f k (rd x0 x19) (rd x1 x19)).bind fun bt109=>((impl_compareFracs.f bt105.1 bt105.2 bt109.1 bt109.2).bind fun t111=>(if t111<0 then (some (false,true)) else (impl_IsStable.l1 k x0 x1 x6 x13 x14 x18 (wrap64 (x19+1)))))) else (none)) else (none)) else (none))) else (none)) else (impl_IsStable.l1 k x0 x1 x6 x13 x14 x18 (wrap64 (x19+1)))) else (none)) else (none))) else (impl_IsStable.l0 k x0 x1 x13 (wrap64 (x14+1)))
end
def impl_IsStable.f (k:Nat) (l0:List Int) (l1:List Int):Option (Bool×Bool):=(impl_areCounts.f k l0 l1).bind fun t101=>(if t101=true then (impl_IsStable.l0 k l0 l1 (l0.length:Int) 0) else (some (false,false)))
def impl_IsStable.T9:Bool×List (List Nat×List Nat):=(true,[([],[]),([],[]),([0,1],[0,1]),([2],[2]),([3],[3]),([3],[3]),([4,5,3],[3,4,5]),([6,3],[3,6]),([7,3],[3,7]),([3,8],[3,8]),([9,3],[9]),([10],[10]),([10],[10]),([11,12,10],[10,11,12]),([13,10],[10,13]),([10],[10]),([10],[10]),([15,16,10],[10,15,16]),([17,10],[10,17]),([18,10],[10,18]),([14,19,10,10],[10,14,19]),([10],[10]),([10],[10]),([21,22,10],[10,21,22]),([23,10],[10,23]),([10],[10]),([10],[10]),([25,26,10],[10,25,26]),([27,10],[10,27]),([24,28,20,10],[10,24,28]),([20,29,29,10],[10,20,29]),([30,10],[10,30]),([10,31],[10,31])])
def impl_IsStable.B9:List Nat:=[0,0,3,7,15,15,63,127,255,511,1023,2047,2047,8191,16383,2047,2047,100351,231423,493567,1048575,2047,2047,6293503,14682111,2047,2047,100665343,234883071,536870911,1073741823,2147483647,4294967295]
theorem impl_IsStable.tab9:rtab .any (opsOf Try.f83 9)=impl_IsStable.T9:=by kernel_rfl
theorem impl_IsStable.bits9:waitsOk impl_IsStable.T9.2 impl_IsStable.B9=true:=by kernel_rfl
set_option maxHeartbeats 8000000 in
set_option maxRecDepth 100000 in
theorem impl_IsStable.calls (k:Nat) (A0:Option Addr) (c0:Nat) (l0:List Int) (A1:Option Addr) (c1:Nat) (l1:List Int) (r1:Bool) (r2:Bool) (w:World) (hr0:Kd.C (Kd.int .i64) w A0 l0.length l0) (hc0:l0.length≤c0) (hr1:Kd.C (Kd.int .i64) w A1 l1.length l1) (hc1:l1.length≤c1) (h:impl_IsStable.f k l0 l1=some (r1,r2)) :
    Calls Try.prog 83 #[.slice A0 l0.length c0,.slice A1 l1.length c1] w fun e w'=>e= .returned (.tuple #[.bool r1,.bool r2])∧Below w.heap.size w w':=by
  have HR0:=aM hr0;have HC0:=aM hc0;clear hr0 hc0;have HR1:=aM hr1;have HC1:=aM hc1;clear hr1 hc1;have HB:=aM (Below.refl w.heap.size w);have H:((impl_areCounts.f k l0 l1).bind fun t101=>(if t101=true then (impl_IsStable.l0 k l0 l1 (l0.length:Int) 0) else (some (false,false))))=some (r1,r2):=h;clear h;replace H:=Option.bind_eq_some_iff.mp H;obtain ⟨t101,A30,H⟩:=H;replace H:(if t101=true then (impl_IsStable.l0 k l0 l1 (l0.length:Int) 0) else (some (false,false)))=some (r1,r2):=H;have A3:=aM A30;clear A30;by_cases c4:t101=true
  ·subst c4;have H1:(impl_IsStable.l0 k l0 l1 (l0.length:Int) 0)=some (r1,r2):=by rw [if_pos rfl] at H;exact H
   clear H;have H:=H1;clear H1;have H':=aM H;clear H;go_enter Try.func83,Try.ntmps83;go_wp2_with (first|((with_reducible refine Qo (f:=155) rfl ?_);refine goesL_ (some 10) rfl rfl Try.func155 (by kernel_rfl) rfl #[.slice A0 l0.length c0,.slice A1 l1.length c1] rfl (by (try simp only [aD,aE,aF]);first|done|rfl|(simp only [aG,aH];rfl)) ?_;(with_reducible refine (impl_areCounts.calls k _ _ l0 _ _ l1 true _ ?side1 ?side2 ?side3 ?side4 A3.out).mono ?_);(case side1=>repeat (first|exact HR0.out|(with_reducible refine Kd.Qr ?_ _)|(with_reducible refine Kd.Qs ?_ _)|(with_reducible refine Kd.C_drew ?_)));(case side2=>exact HC0.out);(case side3=>repeat (first|exact HR1.out|(with_reducible refine Kd.Qr ?_ _)|(with_reducible refine Kd.Qs ?_ _)|(with_reducible refine Kd.C_drew ?_)));(case side4=>exact HC1.out);rintro e w5 ⟨rfl,hb⟩;refine ⟨_,rfl,?_⟩;have n0_:=aM (Qi (by repeat (first|(with_reducible first|exact HB.out|apply Qc|apply Qa|apply Qb)|exact HB.out)) hb);clear HB;have HB:=n0_;clear n0_;(try clear hb);(try clear hb2);(try clear hk);(try clear hi)))
   go_loopg [14] k (fun kq v14 w'=>∃ (x14_1:Int),v14= .int .i64 x14_1∧Aside0 (impl_IsStable.l0 kq l0 l1 (l0.length:Int) x14_1=some (r1,r2))∧Aside0 (kq≤k)∧Aside0 (Below w.heap.size w w'))
   case atStart=>exact ⟨(0),(by first|rfl|(simp;done)|(simp [*];done)),H',⟨Nat.le_refl _⟩,⟨by repeat (first|(with_reducible first|exact HB.out|apply Qc|apply Qa|apply Qb)|exact HB.out)⟩⟩
   case round=>
    clear H';(try clear c1);(try clear p2);(try clear c4);obtain ⟨x14_1,rfl,HA,HK1,HB⟩:=hrel
    cases gk with
    |zero=>exact absurd HA.out (by simp [impl_IsStable.l0])
    |succ k1=>
     have H:=HA.out;clear HA;simp only [impl_IsStable.l0] at H;by_cases c6:x14_1<(l0.length:Int)
     ·rw [if_pos c6] at H;have c6b0:decide (x14_1<(l0.length:Int))=true:=decide_eq_true c6;clear c6;have H':=aM H;clear H;go_wp2;go_loopg [19] k1 (fun kq v19 w'=>∃ (x19_2:Int),v19= .int .i64 x19_2∧Aside0 (impl_IsStable.l1 kq l0 l1 x14_1 (l0.length:Int) x14_1 (l0.length:Int) x19_2=some (r1,r2))∧Aside0 (kq≤k1)∧Aside0 (Below w.heap.size w w'))
      case atStart=>exact ⟨(0),(by first|rfl|(simp;done)|(simp [*];done)),H',⟨Nat.le_refl _⟩,⟨by repeat (first|(with_reducible first|exact HB.out|apply Qc|apply Qa|apply Qb)|exact HB.out)⟩⟩
      case round=>
       clear H';(try clear c1);(try clear p2);(try clear c4);(try clear c6);(try clear c6b0);(try clear p2);obtain ⟨x19_2,rfl,HA,HK2,HB⟩:=hrel
       cases gk with
       |zero=>exact absurd HA.out (by simp [impl_IsStable.l1])
       |succ k2=>
        have H:=HA.out;clear HA;simp only [impl_IsStable.l1] at H;by_cases c7:x19_2<(l0.length:Int)
        ·rw [if_pos c7] at H;have c7b0:decide (x19_2<(l0.length:Int))=true:=decide_eq_true c7;clear c7;by_cases c8:x14_1=x19_2
         ·rw [if_pos c8] at H;have c8b0:(x14_1 == x19_2)=true:=beq_iff_eq.mpr c8;have c8b1:(x14_1 != x19_2)=false:=bne_eq_false_iff_eq.mpr c8;clear c8;have H':=aM H;clear H
          try go_wp2
          have n0_:=aM (Qb HB.out);clear HB;have HB:=n0_;clear n0_;refine start_ (n:=33) (S:=fun w'=>True) (ds:=[]) #[false,false,false,false,false,false,false,false,false,false,false,false,false,false,false,false,false,false,false,false,false,false,false,false,false,false,false,false,false,false,false,false,false] (by kernel_rfl) rfl rfl trivial (fun hHeld=>?_);refine with_tabW impl_IsStable.tab9 impl_IsStable.bits9 (fun HT_ HW_=>?_)
          generalize wr.drew=w9 at HB hHeld ⊢
          refine pure_ (i:=0) (N:=some 22) (v:=?_) (a':=?_) #[true,false,false,false,false,false,false,false,false,false,false,false,false,false,false,false,false,false,false,false,false,false,false,false,false,false,false,false,false,false,false,false,false] rfl rfl (any_of HT_.out (by kernel_rfl)) (fun _ _ _ h=>h) (Or.inl ⟨by rfl,?_⟩) ?_ ?_
          rotate_left
          ·intro w'
           go_simp
           with_reducible rfl
          rotate_left
          ·simp only [Act.put,aA,aB,aC,i64_w,i32_w]
           rfl
          refine pure_ (i:=1) (N:=some 23) (v:=?_) (a':=?_) #[true,true,false,false,false,false,false,false,false,false,false,false,false,false,false,false,false,false,false,false,false,false,false,false,false,false,false,false,false,false,false,false,false] rfl rfl (any_of HT_.out (by kernel_rfl)) (fun _ _ _ h=>h) (Or.inl ⟨by rfl,?_⟩) ?_ ?_
          rotate_left
          ·intro w'
           go_simp
           with_reducible rfl
          rotate_left
          ·simp only [Act.put,aA,aB,aC,i64_w,i32_w]
           rfl
          refine pure_ (i:=2) (N:=some 24) (v:=?_) (a':=?_) #[true,true,true,false,false,false,false,false,false,false,false,false,false,false,false,false,false,false,false,false,false,false,false,false,false,false,false,false,false,false,false,false,false] rfl rfl (any_of HT_.out (by kernel_rfl)) (fun _ _ _ h=>h) (Or.inl ⟨by rfl,?_⟩) ?_ ?_
          rotate_left
          ·intro w'
           go_simp
           with_reducible rfl
          rotate_left
          ·simp only [Act.put,aA,aB,aC,i64_w,i32_w]
           rfl
          refine pure_ (i:=3) (N:=some 25) (v:=?_) (a':=?_) #[true,true,true,true,false,false,false,false,false,false,false,false,false,false,false,false,false,false,false,false,false,false,false,false,false,false,false,false,false,false,false,false,false] rfl rfl (any_of HT_.out (by kernel_rfl)) (fun _ _ _ h=>h) (Or.inl ⟨by rfl,?_⟩) ?_ ?_
          rotate_left
          ·intro w'
           go_simp
           with_reducible rfl
          rotate_left
          ·simp only [Act.put,aA,aB,aC,i64_w,i32_w]
           rfl
          refine pure_ (i:=4) (N:=some 26) (v:=undef) (a':=?_) #[true,true,true,true,true,false,false,false,false,false,false,false,false,false,false,false,false,false,false,false,false,false,false,false,false,false,false,false,false,false,false,false,false] rfl rfl (any_of HT_.out (by kernel_rfl)) (fun _ _ _ h=>h) (Or.inr ⟨by rfl,rfl⟩) ?_ ?_
          rotate_left
          ·simp only [Act.put,aA,aB,aC,i64_w,i32_w]
           rfl
          refine pure_ (i:=5) (N:=some 27) (v:=undef) (a':=?_) #[true,true,true,true,true,true,false,false,false,false,false,false,false,false,false,false,false,false,false,false,false,false,false,false,false,false,false,false,false,false,false,false,false] rfl rfl (any_of HT_.out (by kernel_rfl)) (fun _ _ _ h=>h) (Or.inr ⟨by rfl,rfl⟩) ?_ ?_
          rotate_left
          ·simp only [Act.put,aA,aB,aC,i64_w,i32_w]
           rfl
          refine pure_ (i:=6) (N:=some 28) (v:=undef) (a':=?_) #[true,true,true,true,true,true,true,false,false,false,false,false,false,false,false,false,false,false,false,false,false,false,false,false,false,false,false,false,false,false,false,false,false] rfl rfl (any_of HT_.out (by kernel_rfl)) (fun _ _ _ h=>h) (Or.inr ⟨by rfl,rfl⟩) ?_ ?_
          rotate_left
          ·simp only [Act.put,aA,aB,aC,i64_w,i32_w]
           rfl
          refine pure_ (i:=7) (N:=some 29) (v:=undef) (a':=?_) #[true,true,true,true,true,true,true,true,false,false,false,false,false,false,false,false,false,false,false,false,false,false,false,false,false,false,false,false,false,false,false,false,false] rfl rfl (any_of HT_.out (by kernel_rfl)) (fun _ _ _ h=>h) (Or.inr ⟨by rfl,rfl⟩) ?_ ?_
          rotate_left
          ·simp only [Act.put,aA,aB,aC,i64_w,i32_w]
           rfl
          refine pure_ (i:=8) (N:=some 30) (v:=undef) (a':=?_) #[true,true,true,true,true,true,true,true,true,false,false,false,false,false,false,false,false,false,false,false,false,false,false,false,false,false,false,false,false,false,false,false,false] rfl rfl (any_of HT_.out (by kernel_rfl)) (fun _ _ _ h=>h) (Or.inr ⟨by rfl,rfl⟩) ?_ ?_
          rotate_left
          ·simp only [Act.put,aA,aB,aC,i64_w,i32_w]
           rfl
          refine pure_ (i:=9) (N:=some 31) (v:=?_) (a':=?_) #[true,true,true,true,true,true,true,true,true,true,false,false,false,false,false,false,false,false,false,false,false,false,false,false,false,false,false,false,false,false,false,false,false] rfl rfl (any_of HT_.out (by kernel_rfl)) (fun _ _ _ h=>h) (Or.inl ⟨by rfl,?_⟩) ?_ ?_
          rotate_left
          ·intro w'
           go_simp
           with_reducible rfl
          rotate_left
          ·simp only [Act.put,aA,aB,aC,i64_w,i32_w]
           rfl
          refine pure_ (i:=10) (N:=some 32) (v:=?_) (a':=?_) #[true,true,true,true,true,true,true,true,true,true,true,false,false,false,false,false,false,false,false,false,false,false,false,false,false,false,false,false,false,false,false,false,false] rfl rfl (any_of HT_.out (by kernel_rfl)) (fun _ _ _ h=>h) (Or.inl ⟨by rfl,?_⟩) ?_ ?_
          rotate_left
          ·intro w'
           go_simp
           with_reducible rfl
          rotate_left
          ·simp only [Act.put,aA,aB,aC,i64_w,i32_w]
           rfl
          refine pure_ (i:=11) (N:=some 33) (v:=undef) (a':=?_) #[true,true,true,true,true,true,true,true,true,true,true,true,false,false,false,false,false,false,false,false,false,false,false,false,false,false,false,false,false,false,false,false,false] rfl rfl (any_of HT_.out (by kernel_rfl)) (fun _ _ _ h=>h) (Or.inr ⟨by rfl,rfl⟩) ?_ ?_
          rotate_left
          ·simp only [Act.put,aA,aB,aC,i64_w,i32_w]
           rfl
          refine pure_ (i:=12) (N:=some 34) (v:=undef) (a':=?_) #[true,true,true,true,true,true,true,true,true,true,true,true,true,false,false,false,false,false,false,false,false,false,false,false,false,false,false,false,false,false,false,false,false] rfl rfl (any_of HT_.out (by kernel_rfl)) (fun _ _ _ h=>h) (Or.inr ⟨by rfl,rfl⟩) ?_ ?_
          rotate_left
          ·simp only [Act.put,aA,aB,aC,i64_w,i32_w]
           rfl
          refine pure_ (i:=13) (N:=some 35) (v:=undef) (a':=?_) #[true,true,true,true,true,true,true,true,true,true,true,true,true,true,false,false,false,false,false,false,false,false,false,false,false,false,false,false,false,false,false,false,false] rfl rfl (any_of HT_.out (by kernel_rfl)) (fun _ _ _ h=>h) (Or.inr ⟨by rfl,rfl⟩) ?_ ?_
          rotate_left
          ·simp only [Act.put,aA,aB,aC,i64_w,i32_w]
           rfl
          refine pure_ (i:=14) (N:=some 36) (v:=undef) (a':=?_) #[true,true,true,true,true,true,true,true,true,true,true,true,true,true,true,false,false,false,false,false,false,false,false,false,false,false,false,false,false,false,false,false,false] rfl rfl (any_of HT_.out (by kernel_rfl)) (fun _ _ _ h=>h) (Or.inr ⟨by rfl,rfl⟩) ?_ ?_
          rotate_left
          ·simp only [Act.put,aA,aB,aC,i64_w,i32_w]
           rfl
          refine pure_ (i:=15) (N:=some 37) (v:=undef) (a':=?_) #[true,true,true,true,true,true,true,true,true,true,true,true,true,true,true,true,false,false,false,false,false,false,false,false,false,false,false,false,false,false,false,false,false] rfl rfl (any_of HT_.out (by kernel_rfl)) (fun _ _ _ h=>h) (Or.inr ⟨by rfl,rfl⟩) ?_ ?_
          rotate_left
          ·simp only [Act.put,aA,aB,aC,i64_w,i32_w]
           rfl
          refine pure_ (i:=16) (N:=some 38) (v:=undef) (a':=?_) #[true,true,true,true,true,true,true,true,true,true,true,true,true,true,true,true,true,false,false,false,false,false,false,false,false,false,false,false,false,false,false,false,false] rfl rfl (any_of HT_.out (by kernel_rfl)) (fun _ _ _ h=>h) (Or.inr ⟨by rfl,rfl⟩) ?_ ?_
          rotate_left
          ·simp only [Act.put,aA,aB,aC,i64_w,i32_w]
           rfl
          refine pure_ (i:=17) (N:=some 39) (v:=undef) (a':=?_) #[true,true,true,true,true,true,true,true,true,true,true,true,true,true,true,true,true,true,false,false,false,false,false,false,false,false,false,false,false,false,false,false,false] rfl rfl (any_of HT_.out (by kernel_rfl)) (fun _ _ _ h=>h) (Or.inr ⟨by rfl,rfl⟩) ?_ ?_
          rotate_left
          ·simp only [Act.put,aA,aB,aC,i64_w,i32_w]
           rfl
          refine pure_ (i:=18) (N:=some 40) (v:=undef) (a':=?_) #[true,true,true,true,true,true,true,true,true,true,true,true,true,true,true,true,true,true,true,false,false,false,false,false,false,false,false,false,false,false,false,false,false] rfl rfl (any_of HT_.out (by kernel_rfl)) (fun _ _ _ h=>h) (Or.inr ⟨by rfl,rfl⟩) ?_ ?_
          rotate_left
          ·simp only [Act.put,aA,aB,aC,i64_w,i32_w]
           rfl
          refine pure_ (i:=19) (N:=some 41) (v:=undef) (a':=?_) #[true,true,true,true,true,true,true,true,true,true,true,true,true,true,true,true,true,true,true,true,false,false,false,false,false,false,false,false,false,false,false,false,false] rfl rfl (any_of HT_.out (by kernel_rfl)) (fun _ _ _ h=>h) (Or.inr ⟨by rfl,rfl⟩) ?_ ?_
          rotate_left
          ·simp only [Act.put,aA,aB,aC,i64_w,i32_w]
           rfl
          refine pure_ (i:=20) (N:=some 42) (v:=undef) (a':=?_) #[true,true,true,true,true,true,true,true,true,true,true,true,true,true,true,true,true,true,true,true,true,false,false,false,false,false,false,false,false,false,false,false,false] rfl rfl (any_of HT_.out (by kernel_rfl)) (fun _ _ _ h=>h) (Or.inr ⟨by rfl,rfl⟩) ?_ ?_
          rotate_left
          ·simp only [Act.put,aA,aB,aC,i64_w,i32_w]
           rfl
          refine pure_ (i:=21) (N:=some 43) (v:=undef) (a':=?_) #[true,true,true,true,true,true,true,true,true,true,true,true,true,true,true,true,true,true,true,true,true,true,false,false,false,false,false,false,false,false,false,false,false] rfl rfl (any_of HT_.out (by kernel_rfl)) (fun _ _ _ h=>h) (Or.inr ⟨by rfl,rfl⟩) ?_ ?_
          rotate_left
          ·simp only [Act.put,aA,aB,aC,i64_w,i32_w]
           rfl
          refine pure_ (i:=22) (N:=some 44) (v:=undef) (a':=?_) #[true,true,true,true,true,true,true,true,true,true,true,true,true,true,true,true,true,true,true,true,true,true,true,false,false,false,false,false,false,false,false,false,false] rfl rfl (any_of HT_.out (by kernel_rfl)) (fun _ _ _ h=>h) (Or.inr ⟨by rfl,rfl⟩) ?_ ?_
          rotate_left
          ·simp only [Act.put,aA,aB,aC,i64_w,i32_w]
           rfl
          refine pure_ (i:=23) (N:=some 45) (v:=undef) (a':=?_) #[true,true,true,true,true,true,true,true,true,true,true,true,true,true,true,true,true,true,true,true,true,true,true,true,false,false,false,false,false,false,false,false,false] rfl rfl (any_of HT_.out (by kernel_rfl)) (fun _ _ _ h=>h) (Or.inr ⟨by rfl,rfl⟩) ?_ ?_
          rotate_left
          ·simp only [Act.put,aA,aB,aC,i64_w,i32_w]
           rfl
          refine pure_ (i:=24) (N:=some 46) (v:=undef) (a':=?_) #[true,true,true,true,true,true,true,true,true,true,true,true,true,true,true,true,true,true,true,true,true,true,true,true,true,false,false,false,false,false,false,false,false] rfl rfl (any_of HT_.out (by kernel_rfl)) (fun _ _ _ h=>h) (Or.inr ⟨by rfl,rfl⟩) ?_ ?_
          rotate_left
          ·simp only [Act.put,aA,aB,aC,i64_w,i32_w]
           rfl
          refine pure_ (i:=25) (N:=some 47) (v:=undef) (a':=?_) #[true,true,true,true,true,true,true,true,true,true,true,true,true,true,true,true,true,true,true,true,true,true,true,true,true,true,false,false,false,false,false,false,false] rfl rfl (any_of HT_.out (by kernel_rfl)) (fun _ _ _ h=>h) (Or.inr ⟨by rfl,rfl⟩) ?_ ?_
          rotate_left
          ·simp only [Act.put,aA,aB,aC,i64_w,i32_w]
           rfl
          refine pure_ (i:=26) (N:=some 48) (v:=undef) (a':=?_) #[true,true,true,true,true,true,true,true,true,true,true,true,true,true,true,true,true,true,true,true,true,true,true,true,true,true,true,false,false,false,false,false,false] rfl rfl (any_of HT_.out (by kernel_rfl)) (fun _ _ _ h=>h) (Or.inr ⟨by rfl,rfl⟩) ?_ ?_
          rotate_left
          ·simp only [Act.put,aA,aB,aC,i64_w,i32_w]
           rfl
          refine pure_ (i:=27) (N:=some 49) (v:=undef) (a':=?_) #[true,true,true,true,true,true,true,true,true,true,true,true,true,true,true,true,true,true,true,true,true,true,true,true,true,true,true,true,false,false,false,false,false] rfl rfl (any_of HT_.out (by kernel_rfl)) (fun _ _ _ h=>h) (Or.inr ⟨by rfl,rfl⟩) ?_ ?_
          rotate_left
          ·simp only [Act.put,aA,aB,aC,i64_w,i32_w]
           rfl
          refine pure_ (i:=28) (N:=some 50) (v:=undef) (a':=?_) #[true,true,true,true,true,true,true,true,true,true,true,true,true,true,true,true,true,true,true,true,true,true,true,true,true,true,true,true,true,false,false,false,false] rfl rfl (any_of HT_.out (by kernel_rfl)) (fun _ _ _ h=>h) (Or.inr ⟨by rfl,rfl⟩) ?_ ?_
          rotate_left
          ·simp only [Act.put,aA,aB,aC,i64_w,i32_w]
           rfl
          refine pure_ (i:=29) (N:=some 51) (v:=undef) (a':=?_) #[true,true,true,true,true,true,true,true,true,true,true,true,true,true,true,true,true,true,true,true,true,true,true,true,true,true,true,true,true,true,false,false,false] rfl rfl (any_of HT_.out (by kernel_rfl)) (fun _ _ _ h=>h) (Or.inr ⟨by rfl,rfl⟩) ?_ ?_
          rotate_left
          ·simp only [Act.put,aA,aB,aC,i64_w,i32_w]
           rfl
          refine pure_ (i:=30) (N:=some 52) (v:=undef) (a':=?_) #[true,true,true,true,true,true,true,true,true,true,true,true,true,true,true,true,true,true,true,true,true,true,true,true,true,true,true,true,true,true,true,false,false] rfl rfl (any_of HT_.out (by kernel_rfl)) (fun _ _ _ h=>h) (Or.inr ⟨by rfl,rfl⟩) ?_ ?_
          rotate_left
          ·simp only [Act.put,aA,aB,aC,i64_w,i32_w]
           rfl
          refine pure_ (i:=31) (N:=some 53) (v:=undef) (a':=?_) #[true,true,true,true,true,true,true,true,true,true,true,true,true,true,true,true,true,true,true,true,true,true,true,true,true,true,true,true,true,true,true,true,false] rfl rfl (any_of HT_.out (by kernel_rfl)) (fun _ _ _ h=>h) (Or.inr ⟨by rfl,rfl⟩) ?_ ?_
          rotate_left
          ·simp only [Act.put,aA,aB,aC,i64_w,i32_w]
           rfl
          refine pure_ (i:=32) (N:=some 54) (v:=?_) (a':=?_) #[true,true,true,true,true,true,true,true,true,true,true,true,true,true,true,true,true,true,true,true,true,true,true,true,true,true,true,true,true,true,true,true,true] rfl rfl (any_of HT_.out (by kernel_rfl)) (fun _ _ _ h=>h) (Or.inl ⟨by rfl,?_⟩) ?_ ?_
          rotate_left
          ·intro w'
           go_simp
           with_reducible rfl
          rotate_left
          ·simp only [Act.put,aA,aB,aC,i64_w,i32_w]
           rfl
          refine done_ (done_of HT_.out (by kernel_rfl)) ?_
          try go_wp2
          go_roundg k2
          case measure=>have:=HK1.out;have:=HK2.out;omega
          case rel=>exact ⟨(wrap64 (x19_2+1)),(by first|rfl|(simp;done)|(simp [*];done)),H',⟨by have:=HK1.out;have:=HK2.out;omega⟩,⟨by repeat (first|(with_reducible first|exact HB.out|apply Qc|apply Qa|apply Qb)|exact HB.out)⟩⟩
         ·rw [if_neg c8] at H;have c8b0:(x14_1 == x19_2)=false:=beq_eq_false_iff_ne.mpr c8;have c8b1:(x14_1 != x19_2)=true:=bne_iff_ne.mpr c8;by_cases c10:0≤x14_1
          ·rw [if_pos c10] at H;have c10b0:decide (0≤x14_1)=true:=decide_eq_true c10;clear c10;by_cases c11:x14_1<(l1.length:Int)
           ·rw [if_pos c11] at H;have c11b0:decide (x14_1<(l1.length:Int))=true:=decide_eq_true c11;clear c11;by_cases c12:(rd l1 x14_1) > 1
            ·rw [if_pos c12] at H;have c12b0:decide (1<(rd l1 x14_1))=true:=decide_eq_true c12;clear c12;by_cases c13:x14_1<(l0.length:Int)
             ·rw [if_pos c13] at H;have c13b0:decide (x14_1<(l0.length:Int))=true:=decide_eq_true c13;clear c13;replace H:=Option.bind_eq_some_iff.mp H;obtain ⟨⟨t105,t106⟩,A140,H⟩:=H;replace H:(if 0≤x19_2 then (if x19_2<(l0.length:Int) then (if x19_2<(l1.length:Int) then ((impl_gain.f k2 (rd l0 x19_2) (rd l1 x19_2)).bind fun bt109=>((impl_compareFracs.f t105 t106 bt109.1 bt109.2).bind fun t111=>(if t111<0 then (some (false,true)) else (impl_IsStable.l1 k2 l0 l1 x14_1 (l0.length:Int) x14_1 (l0.length:Int) (wrap64 (x19_2+1)))))) else (none)) else (none)) else (none))=some (r1,r2):=H;have A14:=aM A140;clear A140;by_cases c15:0≤x19_2
              ·rw [if_pos c15] at H;have c15b0:decide (0≤x19_2)=true:=decide_eq_true c15;clear c15;by_cases c16:x19_2<(l0.length:Int)
               ·rw [if_pos c16] at H;have c16b0:decide (x19_2<(l0.length:Int))=true:=decide_eq_true c16;clear c16;by_cases c17:x19_2<(l1.length:Int)
                ·rw [if_pos c17] at H;have c17b0:decide (x19_2<(l1.length:Int))=true:=decide_eq_true c17;clear c17;replace H:=Option.bind_eq_some_iff.mp H;obtain ⟨⟨t109,t110⟩,A180,H⟩:=H;replace H:((impl_compareFracs.f t105 t106 t109 t110).bind fun t111=>(if t111<0 then (some (false,true)) else (impl_IsStable.l1 k2 l0 l1 x14_1 (l0.length:Int) x14_1 (l0.length:Int) (wrap64 (x19_2+1)))))=some (r1,r2):=H;have A18:=aM A180;clear A180;replace H:=Option.bind_eq_some_iff.mp H;obtain ⟨t111,A190,H⟩:=H;replace H:(if t111<0 then (some (false,true)) else (impl_IsStable.l1 k2 l0 l1 x14_1 (l0.length:Int) x14_1 (l0.length:Int) (wrap64 (x19_2+1))))=some (r1,r2):=H;have A19:=aM A190;clear A190;by_cases c20:t111<0
                 ·rw [if_pos c20] at H;have c20b0:decide (t111<0)=true:=decide_eq_true c20;clear c20;simp only [Option.some.injEq,Prod.mk.injEq] at H;obtain ⟨rfl,rfl⟩:=H
                  try go_wp2
                  have n0_:=aM (Qb HB.out);clear HB;have HB:=n0_;clear n0_;have p102:0≤(x14_1:Int):=of_decide_eq_true (by first|(with_reducible assumption)|assumption);have q102:x14_1<(l1.length:Int):=of_decide_eq_true (by first|(with_reducible assumption)|assumption);obtain ⟨ad102,e102,hx102_0⟩:=Kd.at_int HR1.out x14_1 p102 q102;have hw102_0:=hx102_0
                  cases e102
                  replace hx102_0:=(HB.out.cell (aI w _ hx102_0)).trans hx102_0;replace p102:=eq_true p102;replace q102:=eq_true q102;have p103:0≤(x14_1:Int):=of_decide_eq_true (by first|(with_reducible assumption)|assumption);have q103:x14_1<(l0.length:Int):=of_decide_eq_true (by first|(with_reducible assumption)|assumption);obtain ⟨ad103,e103,hx103_0⟩:=Kd.at_int HR0.out x14_1 p103 q103;have hw103_0:=hx103_0
                  cases e103
                  replace hx103_0:=(HB.out.cell (aI w _ hx103_0)).trans hx103_0;replace p103:=eq_true p103;replace q103:=eq_true q103;have p104:0≤(x14_1:Int):=of_decide_eq_true (by first|(with_reducible assumption)|assumption);have q104:x14_1<(l1.length:Int):=of_decide_eq_true (by first|(with_reducible assumption)|assumption);obtain ⟨ad104,e104,hx104_0⟩:=Kd.at_int HR1.out x14_1 p104 q104;have hw104_0:=hx104_0;obtain rfl:ad102=ad104:=(by injection e104);replace hx104_0:=(HB.out.cell (aI w _ hx104_0)).trans hx104_0;replace p104:=eq_true p104;replace q104:=eq_true q104;have p107:0≤(x19_2:Int):=of_decide_eq_true (by first|(with_reducible assumption)|assumption);have q107:x19_2<(l0.length:Int):=of_decide_eq_true (by first|(with_reducible assumption)|assumption);obtain ⟨ad107,e107,hx107_0⟩:=Kd.at_int HR0.out x19_2 p107 q107;have hw107_0:=hx107_0;obtain rfl:ad103=ad107:=(by injection e107);replace hx107_0:=(HB.out.cell (aI w _ hx107_0)).trans hx107_0;replace p107:=eq_true p107;replace q107:=eq_true q107;have p108:0≤(x19_2:Int):=of_decide_eq_true (by first|(with_reducible assumption)|assumption);have q108:x19_2<(l1.length:Int):=of_decide_eq_true (by first|(with_reducible assumption)|assumption);obtain ⟨ad108,e108,hx108_0⟩:=Kd.at_int HR1.out x19_2 p108 q108;have hw108_0:=hx108_0;obtain rfl:ad102=ad108:=(by injection e108);replace hx108_0:=(HB.out.cell (aI w _ hx108_0)).trans hx108_0;replace p108:=eq_true p108;replace q108:=eq_true q108;refine start_ (n:=33) (S:=fun w'=>w'.cell? (ad102.add (x14_1).toNat)=some (.int .i64 (rd l1 x14_1))∧w'.cell? (ad103.add (x14_1).toNat)=some (.int .i64 (rd l0 x14_1))∧w'.cell? (ad102.add (x14_1).toNat)=some (.int .i64 (rd l1 x14_1))∧w'.cell? (ad103.add (x19_2).toNat)=some (.int .i64 (rd l0 x19_2))∧w'.cell? (ad102.add (x19_2).toNat)=some (.int .i64 (rd l1 x19_2))) (ds:=[]) #[false,false,false,false,false,false,false,false,false,false,false,false,false,false,false,false,false,false,false,false,false,false,false,false,false,false,false,false,false,false,false,false,false] (by kernel_rfl) rfl rfl ⟨((HB.out.cell (aI w _ hw102_0)).trans hw102_0),((HB.out.cell (aI w _ hw103_0)).trans hw103_0),((HB.out.cell (aI w _ hw104_0)).trans hw104_0),((HB.out.cell (aI w _ hw107_0)).trans hw107_0),((HB.out.cell (aI w _ hw108_0)).trans hw108_0)⟩ (fun hHeld=>?_);refine with_tabW impl_IsStable.tab9 impl_IsStable.bits9 (fun HT_ HW_=>?_)
                  generalize wr.drew=w21 at HB hx102_0 hx103_0 hx104_0 hx107_0 hx108_0 hHeld ⊢
                  refine pure_ (i:=0) (N:=some 22) (v:=?_) (a':=?_) #[true,false,false,false,false,false,false,false,false,false,false,false,false,false,false,false,false,false,false,false,false,false,false,false,false,false,false,false,false,false,false,false,false] rfl rfl (any_of HT_.out (by kernel_rfl)) (fun _ _ _ h=>h) (Or.inl ⟨by rfl,?_⟩) ?_ ?_
                  rotate_left
                  ·intro w'
                   go_simp
                   with_reducible rfl
                  rotate_left
                  ·simp only [Act.put,aA,aB,aC,i64_w,i32_w]
                   rfl
                  refine pure_ (i:=1) (N:=some 23) (v:=?_) (a':=?_) #[true,true,false,false,false,false,false,false,false,false,false,false,false,false,false,false,false,false,false,false,false,false,false,false,false,false,false,false,false,false,false,false,false] rfl rfl (any_of HT_.out (by kernel_rfl)) (fun _ _ _ h=>h) (Or.inl ⟨by rfl,?_⟩) ?_ ?_
                  rotate_left
                  ·intro w'
                   go_simp
                   with_reducible rfl
                  rotate_left
                  ·simp only [Act.put,aA,aB,aC,i64_w,i32_w]
                   rfl
                  refine pure_ (i:=2) (N:=some 24) (v:=?_) (a':=?_) #[true,true,true,false,false,false,false,false,false,false,false,false,false,false,false,false,false,false,false,false,false,false,false,false,false,false,false,false,false,false,false,false,false] rfl rfl (any_of HT_.out (by kernel_rfl)) (fun _ _ _ h=>h) (Or.inl ⟨by rfl,?_⟩) ?_ ?_
                  rotate_left
                  ·intro w'
                   go_simp
                   with_reducible rfl
                  rotate_left
                  ·simp only [Act.put,aA,aB,aC,i64_w,i32_w]
                   rfl
                  refine pure_ (i:=3) (N:=some 25) (v:=?_) (a':=?_) #[true,true,true,true,false,false,false,false,false,false,false,false,false,false,false,false,false,false,false,false,false,false,false,false,false,false,false,false,false,false,false,false,false] rfl rfl (any_of HT_.out (by kernel_rfl)) (fun _ _ _ h=>h) (Or.inl ⟨by rfl,?_⟩) ?_ ?_
                  rotate_left
                  ·intro w'
                   go_simp
                   with_reducible rfl
                  rotate_left
                  ·simp only [Act.put,aA,aB,aC,i64_w,i32_w]
                   rfl
                  refine pure_ (i:=4) (N:=some 26) (v:=?_) (a':=?_) #[true,true,true,true,true,false,false,false,false,false,false,false,false,false,false,false,false,false,false,false,false,false,false,false,false,false,false,false,false,false,false,false,false] rfl rfl (any_of HT_.out (by kernel_rfl)) (fun _ _ _ h=>h) (Or.inl ⟨by rfl,?_⟩) ?_ ?_
                  rotate_left
                  ·intro w'
                   go_simp
                   with_reducible rfl
                  rotate_left
                  ·simp only [Act.put,aA,aB,aC,i64_w,i32_w]
                   rfl
                  refine pure_ (i:=5) (N:=some 27) (v:=?_) (a':=?_) #[true,true,true,true,true,true,false,false,false,false,false,false,false,false,false,false,false,false,false,false,false,false,false,false,false,false,false,false,false,false,false,false,false] rfl rfl (any_of HT_.out (by kernel_rfl)) (fun _ _ _ h=>h) (Or.inl ⟨by rfl,?_⟩) ?_ ?_
                  rotate_left
                  ·intro w'
                   go_simp
                   with_reducible rfl
                  rotate_left
                  ·simp only [Act.put,aA,aB,aC,i64_w,i32_w]
                   rfl
                  refine pure_ (i:=6) (N:=some 28) (v:=?_) (a':=?_) #[true,true,true,true,true,true,true,false,false,false,false,false,false,false,false,false,false,false,false,false,false,false,false,false,false,false,false,false,false,false,false,false,false] rfl rfl (any_of HT_.out (by kernel_rfl)) (fun _ _ _ h=>h) (Or.inl ⟨by rfl,?_⟩) ?_ ?_
                  rotate_left
                  ·intro w'
                   go_simp
                   with_reducible rfl
                  rotate_left
                  ·simp only [Act.put,aA,aB,aC,i64_w,i32_w]
                   rfl
                  refine take_ (i:=7) (N:=some 29) (v:=?_) (a':=?_) #[true,true,true,true,true,true,true,true,false,false,false,false,false,false,false,false,false,false,false,false,false,false,false,false,false,false,false,false,false,false,false,false,false] rfl rfl (take_ofW HT_.out HW_.out (by kernel_rfl)) (fun _ _ _ h=>h) (Or.inl ⟨by rfl,?_⟩) hHeld ?_ ?_
                  rotate_left
                  ·rintro w' ⟨s0,s1,s2,s3,s4⟩
                   go_simp
                   with_reducible rfl
                  rotate_left
                  ·simp only [Act.put,aA,aB,aC,i64_w,i32_w]
                   rfl
                  refine pure_ (i:=8) (N:=some 30) (v:=?_) (a':=?_) #[true,true,true,true,true,true,true,true,true,false,false,false,false,false,false,false,false,false,false,false,false,false,false,false,false,false,false,false,false,false,false,false,false] rfl rfl (any_of HT_.out (by kernel_rfl)) (fun _ _ _ h=>h) (Or.inl ⟨by rfl,?_⟩) ?_ ?_
                  rotate_left
                  ·intro w'
                   go_simp
                   with_reducible rfl
                  rotate_left
                  ·simp only [Act.put,aA,aB,aC,i64_w,i32_w]
                   rfl
                  refine pure_ (i:=9) (N:=some 31) (v:=?_) (a':=?_) #[true,true,true,true,true,true,true,true,true,true,false,false,false,false,false,false,false,false,false,false,false,false,false,false,false,false,false,false,false,false,false,false,false] rfl rfl (any_of HT_.out (by kernel_rfl)) (fun _ _ _ h=>h) (Or.inl ⟨by rfl,?_⟩) ?_ ?_
                  rotate_left
                  ·intro w'
                   go_simp
                   with_reducible rfl
                  rotate_left
                  ·simp only [Act.put,aA,aB,aC,i64_w,i32_w]
                   rfl
                  refine pure_ (i:=10) (N:=some 32) (v:=?_) (a':=?_) #[true,true,true,true,true,true,true,true,true,true,true,false,false,false,false,false,false,false,false,false,false,false,false,false,false,false,false,false,false,false,false,false,false] rfl rfl (any_of HT_.out (by kernel_rfl)) (fun _ _ _ h=>h) (Or.inl ⟨by rfl,?_⟩) ?_ ?_
                  rotate_left
                  ·intro w'
                   go_simp
                   with_reducible rfl
                  rotate_left
                  ·simp only [Act.put,aA,aB,aC,i64_w,i32_w]
                   rfl
                  refine pure_ (i:=11) (N:=some 33) (v:=?_) (a':=?_) #[true,true,true,true,true,true,true,true,true,true,true,true,false,false,false,false,false,false,false,false,false,false,false,false,false,false,false,false,false,false,false,false,false] rfl rfl (any_of HT_.out (by kernel_rfl)) (fun _ _ _ h=>h) (Or.inl ⟨by rfl,?_⟩) ?_ ?_
                  rotate_left
                  ·intro w'
                   go_simp
                   with_reducible rfl
                  rotate_left
                  ·simp only [Act.put,aA,aB,aC,i64_w,i32_w]
                   rfl
                  refine pure_ (i:=12) (N:=some 34) (v:=?_) (a':=?_) #[true,true,true,true,true,true,true,true,true,true,true,true,true,false,false,false,false,false,false,false,false,false,false,false,false,false,false,false,false,false,false,false,false] rfl rfl (any_of HT_.out (by kernel_rfl)) (fun _ _ _ h=>h) (Or.inl ⟨by rfl,?_⟩) ?_ ?_
                  rotate_left
                  ·intro w'
                   go_simp
                   with_reducible rfl
                  rotate_left
                  ·simp only [Act.put,aA,aB,aC,i64_w,i32_w]
                   rfl
                  refine pure_ (i:=13) (N:=some 35) (v:=?_) (a':=?_) #[true,true,true,true,true,true,true,true,true,true,true,true,true,true,false,false,false,false,false,false,false,false,false,false,false,false,false,false,false,false,false,false,false] rfl rfl (any_of HT_.out (by kernel_rfl)) (fun _ _ _ h=>h) (Or.inl ⟨by rfl,?_⟩) ?_ ?_
                  rotate_left
                  ·intro w'
                   go_simp
                   with_reducible rfl
                  rotate_left
                  ·simp only [Act.put,aA,aB,aC,i64_w,i32_w]
                   rfl
                  refine pure_ (i:=15) (N:=some 37) (v:=?_) (a':=?_) #[true,true,true,true,true,true,true,true,true,true,true,true,true,true,false,true,false,false,false,false,false,false,false,false,false,false,false,false,false,false,false,false,false] rfl rfl (any_of HT_.out (by kernel_rfl)) (fun _ _ _ h=>h) (Or.inl ⟨by rfl,?_⟩) ?_ ?_
                  rotate_left
                  ·intro w'
                   go_simp
                   with_reducible rfl
                  rotate_left
                  ·simp only [Act.put,aA,aB,aC,i64_w,i32_w]
                   rfl
                  refine pure_ (i:=16) (N:=some 38) (v:=?_) (a':=?_) #[true,true,true,true,true,true,true,true,true,true,true,true,true,true,false,true,true,false,false,false,false,false,false,false,false,false,false,false,false,false,false,false,false] rfl rfl (any_of HT_.out (by kernel_rfl)) (fun _ _ _ h=>h) (Or.inl ⟨by rfl,?_⟩) ?_ ?_
                  rotate_left
                  ·intro w'
                   go_simp
                   with_reducible rfl
                  rotate_left
                  ·simp only [Act.put,aA,aB,aC,i64_w,i32_w]
                   rfl
                  refine pure_ (i:=17) (N:=some 39) (v:=?_) (a':=?_) #[true,true,true,true,true,true,true,true,true,true,true,true,true,true,false,true,true,true,false,false,false,false,false,false,false,false,false,false,false,false,false,false,false] rfl rfl (any_of HT_.out (by kernel_rfl)) (fun _ _ _ h=>h) (Or.inl ⟨by rfl,?_⟩) ?_ ?_
                  rotate_left
                  ·intro w'
                   go_simp
                   with_reducible rfl
                  rotate_left
                  ·simp only [Act.put,aA,aB,aC,i64_w,i32_w]
                   rfl
                  refine pure_ (i:=21) (N:=some 43) (v:=?_) (a':=?_) #[true,true,true,true,true,true,true,true,true,true,true,true,true,true,false,true,true,true,false,false,false,true,false,false,false,false,false,false,false,false,false,false,false] rfl rfl (any_of HT_.out (by kernel_rfl)) (fun _ _ _ h=>h) (Or.inl ⟨by rfl,?_⟩) ?_ ?_
                  rotate_left
                  ·intro w'
                   go_simp
                   with_reducible rfl
                  rotate_left
                  ·simp only [Act.put,aA,aB,aC,i64_w,i32_w]
                   rfl
                  refine pure_ (i:=22) (N:=some 44) (v:=?_) (a':=?_) #[true,true,true,true,true,true,true,true,true,true,true,true,true,true,false,true,true,true,false,false,false,true,true,false,false,false,false,false,false,false,false,false,false] rfl rfl (any_of HT_.out (by kernel_rfl)) (fun _ _ _ h=>h) (Or.inl ⟨by rfl,?_⟩) ?_ ?_
                  rotate_left
                  ·intro w'
                   go_simp
                   with_reducible rfl
                  rotate_left
                  ·simp only [Act.put,aA,aB,aC,i64_w,i32_w]
                   rfl
                  refine pure_ (i:=23) (N:=some 45) (v:=?_) (a':=?_) #[true,true,true,true,true,true,true,true,true,true,true,true,true,true,false,true,true,true,false,false,false,true,true,true,false,false,false,false,false,false,false,false,false] rfl rfl (any_of HT_.out (by kernel_rfl)) (fun _ _ _ h=>h) (Or.inl ⟨by rfl,?_⟩) ?_ ?_
                  rotate_left
                  ·intro w'
                   go_simp
                   with_reducible rfl
                  rotate_left
                  ·simp only [Act.put,aA,aB,aC,i64_w,i32_w]
                   rfl
                  refine pure_ (i:=25) (N:=some 47) (v:=?_) (a':=?_) #[true,true,true,true,true,true,true,true,true,true,true,true,true,true,false,true,true,true,false,false,false,true,true,true,false,true,false,false,false,false,false,false,false] rfl rfl (any_of HT_.out (by kernel_rfl)) (fun _ _ _ h=>h) (Or.inl ⟨by rfl,?_⟩) ?_ ?_
                  rotate_left
                  ·intro w'
                   go_simp
                   with_reducible rfl
                  rotate_left
                  ·simp only [Act.put,aA,aB,aC,i64_w,i32_w]
                   rfl
                  refine pure_ (i:=26) (N:=some 48) (v:=?_) (a':=?_) #[true,true,true,true,true,true,true,true,true,true,true,true,true,true,false,true,true,true,false,false,false,true,true,true,false,true,true,false,false,false,false,false,false] rfl rfl (any_of HT_.out (by kernel_rfl)) (fun _ _ _ h=>h) (Or.inl ⟨by rfl,?_⟩) ?_ ?_
                  rotate_left
                  ·intro w'
                   go_simp
                   with_reducible rfl
                  rotate_left
                  ·simp only [Act.put,aA,aB,aC,i64_w,i32_w]
                   rfl
                  refine pure_ (i:=27) (N:=some 49) (v:=?_) (a':=?_) #[true,true,true,true,true,true,true,true,true,true,true,true,true,true,false,true,true,true,false,false,false,true,true,true,false,true,true,true,false,false,false,false,false] rfl rfl (any_of HT_.out (by kernel_rfl)) (fun _ _ _ h=>h) (Or.inl ⟨by rfl,?_⟩) ?_ ?_
                  rotate_left
                  ·intro w'
                   go_simp
                   with_reducible rfl
                  rotate_left
                  ·simp only [Act.put,aA,aB,aC,i64_w,i32_w]
                   rfl
                  refine take_ (i:=14) (N:=some 36) (v:=?_) (a':=?_) #[true,true,true,true,true,true,true,true,true,true,true,true,true,true,true,true,true,true,false,false,false,true,true,true,false,true,true,true,false,false,false,false,false] rfl rfl (take_ofW HT_.out HW_.out (by kernel_rfl)) (fun _ _ _ h=>h) (Or.inl ⟨by rfl,?_⟩) hHeld ?_ ?_
                  rotate_left
                  ·rintro w' ⟨s0,s1,s2,s3,s4⟩
                   go_simp
                   with_reducible rfl
                  rotate_left
                  ·simp only [Act.put,aA,aB,aC,i64_w,i32_w]
                   rfl
                  refine take_ (i:=18) (N:=some 40) (v:=?_) (a':=?_) #[true,true,true,true,true,true,true,true,true,true,true,true,true,true,true,true,true,true,true,false,false,true,true,true,false,true,true,true,false,false,false,false,false] rfl rfl (take_ofW HT_.out HW_.out (by kernel_rfl)) (fun _ _ _ h=>h) (Or.inl ⟨by rfl,?_⟩) hHeld ?_ ?_
                  rotate_left
                  ·rintro w' ⟨s0,s1,s2,s3,s4⟩
                   go_simp
                   with_reducible rfl
                  rotate_left
                  ·simp only [Act.put,aA,aB,aC,i64_w,i32_w]
                   rfl
                  refine pure_ (i:=19) (N:=some 41) (v:=?_) (a':=?_) #[true,true,true,true,true,true,true,true,true,true,true,true,true,true,true,true,true,true,true,true,false,true,true,true,false,true,true,true,false,false,false,false,false] rfl rfl (any_of HT_.out (by kernel_rfl)) (fun _ _ _ h=>h) (Or.inl ⟨by rfl,?_⟩) ?_ ?_
                  rotate_left
                  ·intro w'
                   go_simp
                   with_reducible rfl
                  rotate_left
                  ·simp only [Act.put,aA,aB,aC,i64_w,i32_w]
                   rfl
                  refine take_ (i:=24) (N:=some 46) (v:=?_) (a':=?_) #[true,true,true,true,true,true,true,true,true,true,true,true,true,true,true,true,true,true,true,true,false,true,true,true,true,true,true,true,false,false,false,false,false] rfl rfl (take_ofW HT_.out HW_.out (by kernel_rfl)) (fun _ _ _ h=>h) (Or.inl ⟨by rfl,?_⟩) hHeld ?_ ?_
                  rotate_left
                  ·rintro w' ⟨s0,s1,s2,s3,s4⟩
                   go_simp
                   with_reducible rfl
                  rotate_left
                  ·simp only [Act.put,aA,aB,aC,i64_w,i32_w]
                   rfl
                  refine take_ (i:=28) (N:=some 50) (v:=?_) (a':=?_) #[true,true,true,true,true,true,true,true,true,true,true,true,true,true,true,true,true,true,true,true,false,true,true,true,true,true,true,true,true,false,false,false,false] rfl rfl (take_ofW HT_.out HW_.out (by kernel_rfl)) (fun _ _ _ h=>h) (Or.inl ⟨by rfl,?_⟩) hHeld ?_ ?_
                  rotate_left
                  ·rintro w' ⟨s0,s1,s2,s3,s4⟩
                   go_simp
                   with_reducible rfl
                  rotate_left
                  ·simp only [Act.put,aA,aB,aC,i64_w,i32_w]
                   rfl
                  refine one_ (i:=20) (N:=some 42) #[true,true,true,true,true,true,true,true,true,true,true,true,true,true,true,true,true,true,true,true,true,true,true,true,true,true,true,true,true,false,false,false,false] rfl rfl (one_of HT_.out (by kernel_rfl)) (by decide) (fun K hK=>?_)
                  first|(refine goes_ Try.func199 (by kernel_rfl) rfl #[.int .i64 (rd l0 x14_1),.int .i64 (wrap64 ((rd l1 x14_1) - 1))] (by rfl) rfl rfl (by (try simp only [aD,aE,aF]);first|done|rfl|(simp only [aG,aH];rfl)) ?_)|(refine call_ 199 #[.int .i64 (rd l0 x14_1),.int .i64 (wrap64 ((rd l1 x14_1) - 1))] (by rfl) rfl (by unfold execOp;simp [resolve,Deferred.ofValue,invoke,Act.eval,enters_ Try.func199 (by kernel_rfl) rfl]) ?_)
                  with_reducible refine (impl_gain.calls k2 (rd l0 x14_1) (wrap64 ((rd l1 x14_1) - 1)) t105 t106 _ A14.out).mono ?_
                  rintro e w22 ⟨rfl,hb⟩
                  refine ⟨_,rfl,?_⟩;have n0_:=aM (Qi (by repeat (first|(with_reducible first|exact HB.out|apply Qc|apply Qa|apply Qb)|exact HB.out)) hb);clear HB;have HB:=n0_;clear n0_;(try clear hb);(try clear hb2);(try clear hk);(try clear hi);refine hK.out _ _ ⟨((HB.out.cell (aI w _ hw102_0)).trans hw102_0),((HB.out.cell (aI w _ hw103_0)).trans hw103_0),((HB.out.cell (aI w _ hw104_0)).trans hw104_0),((HB.out.cell (aI w _ hw107_0)).trans hw107_0),((HB.out.cell (aI w _ hw108_0)).trans hw108_0)⟩ (fun hHeld=>?_);clear hK K;refine norm_ (a':=?_) ?_ ?_
                  rotate_left
                  ·show Act.put _ (some 42) _=_
                   simp only [Act.put,aA,aB,aC,i64_w,i32_w]
                   rfl
                  refine one_ (i:=29) (N:=some 51) #[true,true,true,true,true,true,true,true,true,true,true,true,true,true,true,true,true,true,true,true,true,true,true,true,true,true,true,true,true,true,false,false,false] rfl rfl (one_of HT_.out (by kernel_rfl)) (by decide) (fun K hK=>?_)
                  first|(refine goes_ Try.func199 (by kernel_rfl) rfl #[.int .i64 (rd l0 x19_2),.int .i64 (rd l1 x19_2)] (by rfl) rfl rfl (by (try simp only [aD,aE,aF]);first|done|rfl|(simp only [aG,aH];rfl)) ?_)|(refine call_ 199 #[.int .i64 (rd l0 x19_2),.int .i64 (rd l1 x19_2)] (by rfl) rfl (by unfold execOp;simp [resolve,Deferred.ofValue,invoke,Act.eval,enters_ Try.func199 (by kernel_rfl) rfl]) ?_)
                  with_reducible refine (impl_gain.calls k2 (rd l0 x19_2) (rd l1 x19_2) t109 t110 _ A18.out).mono ?_
                  rintro e w23 ⟨rfl,hb⟩
                  refine ⟨_,rfl,?_⟩;have n0_:=aM (Qi (by repeat (first|(with_reducible first|exact HB.out|apply Qc|apply Qa|apply Qb)|exact HB.out)) hb);clear HB;have HB:=n0_;clear n0_;(try clear hb);(try clear hb2);(try clear hk);(try clear hi);refine hK.out _ _ ⟨((HB.out.cell (aI w _ hw102_0)).trans hw102_0),((HB.out.cell (aI w _ hw103_0)).trans hw103_0),((HB.out.cell (aI w _ hw104_0)).trans hw104_0),((HB.out.cell (aI w _ hw107_0)).trans hw107_0),((HB.out.cell (aI w _ hw108_0)).trans hw108_0)⟩ (fun hHeld=>?_);clear hK K;refine norm_ (a':=?_) ?_ ?_
                  rotate_left
                  ·show Act.put _ (some 51) _=_
                   simp only [Act.put,aA,aB,aC,i64_w,i32_w]
                   rfl
                  refine one_ (i:=30) (N:=some 52) #[true,true,true,true,true,true,true,true,true,true,true,true,true,true,true,true,true,true,true,true,true,true,true,true,true,true,true,true,true,true,true,false,false] rfl rfl (one_of HT_.out (by kernel_rfl)) (by decide) (fun K hK=>?_)
                  first|(refine goes_ Try.func158 (by kernel_rfl) rfl #[.agg #[.int .i64 t105,.int .i64 t106],.agg #[.int .i64 t109,.int .i64 t110]] (by rfl) rfl rfl (by (try simp only [aD,aE,aF]);first|done|rfl|(simp only [aG,aH];rfl)) ?_)|(refine call_ 158 #[.agg #[.int .i64 t105,.int .i64 t106],.agg #[.int .i64 t109,.int .i64 t110]] (by rfl) rfl (by unfold execOp;simp [resolve,Deferred.ofValue,invoke,Act.eval,enters_ Try.func158 (by kernel_rfl) rfl]) ?_)
                  with_reducible refine (impl_compareFracs.calls t105 t106 t109 t110 t111 _ A19.out).mono ?_
                  rintro e w24 ⟨rfl,hb⟩
                  refine ⟨_,rfl,?_⟩;have n0_:=aM (Qi (by repeat (first|(with_reducible first|exact HB.out|apply Qc|apply Qa|apply Qb)|exact HB.out)) hb);clear HB;have HB:=n0_;clear n0_;(try clear hb);(try clear hb2);(try clear hk);(try clear hi);refine hK.out _ _ ⟨((HB.out.cell (aI w _ hw102_0)).trans hw102_0),((HB.out.cell (aI w _ hw103_0)).trans hw103_0),((HB.out.cell (aI w _ hw104_0)).trans hw104_0),((HB.out.cell (aI w _ hw107_0)).trans hw107_0),((HB.out.cell (aI w _ hw108_0)).trans hw108_0)⟩ (fun hHeld=>?_);clear hK K;refine norm_ (a':=?_) ?_ ?_
                  rotate_left
                  ·show Act.put _ (some 52) _=_
                   simp only [Act.put,aA,aB,aC,i64_w,i32_w]
                   rfl
                  refine pure_ (i:=31) (N:=some 53) (v:=?_) (a':=?_) #[true,true,true,true,true,true,true,true,true,true,true,true,true,true,true,true,true,true,true,true,true,true,true,true,true,true,true,true,true,true,true,true,false] rfl rfl (any_of HT_.out (by kernel_rfl)) (fun _ _ _ h=>h) (Or.inl ⟨by rfl,?_⟩) ?_ ?_
                  rotate_left
                  ·intro w'
                   go_simp
                   with_reducible rfl
                  rotate_left
                  ·simp only [Act.put,aA,aB,aC,i64_w,i32_w]
                   rfl
                  refine pure_ (i:=32) (N:=some 54) (v:=?_) (a':=?_) #[true,true,true,true,true,true,true,true,true,true,true,true,true,true,true,true,true,true,true,true,true,true,true,true,true,true,true,true,true,true,true,true,true] rfl rfl (any_of HT_.out (by kernel_rfl)) (fun _ _ _ h=>h) (Or.inl ⟨by rfl,?_⟩) ?_ ?_
                  rotate_left
                  ·intro w'
                   go_simp
                   with_reducible rfl
                  rotate_left
                  ·simp only [Act.put,aA,aB,aC,i64_w,i32_w]
                   rfl
                  refine done_ (done_of HT_.out (by kernel_rfl)) ?_
                  try go_wp2
                  go_ret2
                  exact ⟨by first|rfl|(simp [errW_none,errW_some] <;> rfl)|(simp [*,errW_none,errW_some] <;> rfl),by repeat (first|(with_reducible first|exact HB.out|apply Qc|apply Qa|apply Qb)|exact HB.out)⟩
                 ·rw [if_neg c20] at H;have c20b0:decide (t111<0)=false:=decide_eq_false c20;clear c20;have H':=aM H;clear H
                  try go_wp2
                  have n0_:=aM (Qb HB.out);clear HB;have HB:=n0_;clear n0_;have p102:0≤(x14_1:Int):=of_decide_eq_true (by first|(with_reducible assumption)|assumption);have q102:x14_1<(l1.length:Int):=of_decide_eq_true (by first|(with_reducible assumption)|assumption);obtain ⟨ad102,e102,hx102_0⟩:=Kd.at_int HR1.out x14_1 p102 q102;have hw102_0:=hx102_0
                  cases e102
                  replace hx102_0:=(HB.out.cell (aI w _ hx102_0)).trans hx102_0;replace p102:=eq_true p102;replace q102:=eq_true q102;have p103:0≤(x14_1:Int):=of_decide_eq_true (by first|(with_reducible assumption)|assumption);have q103:x14_1<(l0.length:Int):=of_decide_eq_true (by first|(with_reducible assumption)|assumption);obtain ⟨ad103,e103,hx103_0⟩:=Kd.at_int HR0.out x14_1 p103 q103;have hw103_0:=hx103_0
                  cases e103
                  replace hx103_0:=(HB.out.cell (aI w _ hx103_0)).trans hx103_0;replace p103:=eq_true p103;replace q103:=eq_true q103;have p104:0≤(x14_1:Int):=of_decide_eq_true (by first|(with_reducible assumption)|assumption);have q104:x14_1<(l1.length:Int):=of_decide_eq_true (by first|(with_reducible assumption)|assumption);obtain ⟨ad104,e104,hx104_0⟩:=Kd.at_int HR1.out x14_1 p104 q104;have hw104_0:=hx104_0;obtain rfl:ad102=ad104:=(by injection e104);replace hx104_0:=(HB.out.cell (aI w _ hx104_0)).trans hx104_0;replace p104:=eq_true p104;replace q104:=eq_true q104;have p107:0≤(x19_2:Int):=of_decide_eq_true (by first|(with_reducible assumption)|assumption);have q107:x19_2<(l0.length:Int):=of_decide_eq_true (by first|(with_reducible assumption)|assumption);obtain ⟨ad107,e107,hx107_0⟩:=Kd.at_int HR0.out x19_2 p107 q107;have hw107_0:=hx107_0;obtain rfl:ad103=ad107:=(by injection e107);replace hx107_0:=(HB.out.cell (aI w _ hx107_0)).trans hx107_0;replace p107:=eq_true p107;replace q107:=eq_true q107;have p108:0≤(x19_2:Int):=of_decide_eq_true (by first|(with_reducible assumption)|assumption);have q108:x19_2<(l1.length:Int):=of_decide_eq_true (by first|(with_reducible assumption)|assumption);obtain ⟨ad108,e108,hx108_0⟩:=Kd.at_int HR1.out x19_2 p108 q108;have hw108_0:=hx108_0;obtain rfl:ad102=ad108:=(by injection e108);replace hx108_0:=(HB.out.cell (aI w _ hx108_0)).trans hx108_0;replace p108:=eq_true p108;replace q108:=eq_true q108;refine start_ (n:=33) (S:=fun w'=>w'.cell? (ad102.add (x14_1).toNat)=some (.int .i64 (rd l1 x14_1))∧w'.cell? (ad103.add (x14_1).toNat)=some (.int .i64 (rd l0 x14_1))∧w'.cell? (ad102.add (x14_1).toNat)=some (.int .i64 (rd l1 x14_1))∧w'.cell? (ad103.add (x19_2).toNat)=some (.int .i64 (rd l0 x19_2))∧w'.cell? (ad102.add (x19_2).toNat)=some (.int .i64 (rd l1 x19_2))) (ds:=[]) #[false,false,false,false,false,false,false,false,false,false,false,false,false,false,false,false,false,false,false,false,false,false,false,false,false,false,false,false,false,false,false,false,false] (by kernel_rfl) rfl rfl ⟨((HB.out.cell (aI w _ hw102_0)).trans hw102_0),((HB.out.cell (aI w _ hw103_0)).trans hw103_0),((HB.out.cell (aI w _ hw104_0)).trans hw104_0),((HB.out.cell (aI w _ hw107_0)).trans hw107_0),((HB.out.cell (aI w _ hw108_0)).trans hw108_0)⟩ (fun hHeld=>?_);refine with_tabW impl_IsStable.tab9 impl_IsStable.bits9 (fun HT_ HW_=>?_)
                  generalize wr.drew=w25 at HB hx102_0 hx103_0 hx104_0 hx107_0 hx108_0 hHeld ⊢
                  refine pure_ (i:=0) (N:=some 22) (v:=?_) (a':=?_) #[true,false,false,false,false,false,false,false,false,false,false,false,false,false,false,false,false,false,false,false,false,false,false,false,false,false,false,false,false,false,false,false,false] rfl rfl (any_of HT_.out (by kernel_rfl)) (fun _ _ _ h=>h) (Or.inl ⟨by rfl,?_⟩) ?_ ?_
                  rotate_left
                  ·intro w'
                   go_simp
                   with_reducible rfl
                  rotate_left
                  ·simp only [Act.put,aA,aB,aC,i64_w,i32_w]
                   rfl
                  refine pure_ (i:=1) (N:=some 23) (v:=?_) (a':=?_) #[true,true,false,false,false,false,false,false,false,false,false,false,false,false,false,false,false,false,false,false,false,false,false,false,false,false,false,false,false,false,false,false,false] rfl rfl (any_of HT_.out (by kernel_rfl)) (fun _ _ _ h=>h) (Or.inl ⟨by rfl,?_⟩) ?_ ?_
                  rotate_left
                  ·intro w'
                   go_simp
                   with_reducible rfl
                  rotate_left
                  ·simp only [Act.put,aA,aB,aC,i64_w,i32_w]
                   rfl
                  refine pure_ (i:=2) (N:=some 24) (v:=?_) (a':=?_) #[true,true,true,false,false,false,false,false,false,false,false,false,false,false,false,false,false,false,false,false,false,false,false,false,false,false,false,false,false,false,false,false,false] rfl rfl (any_of HT_.out (by kernel_rfl)) (fun _ _ _ h=>h) (Or.inl ⟨by rfl,?_⟩) ?_ ?_
                  rotate_left
                  ·intro w'
                   go_simp
                   with_reducible rfl
                  rotate_left
                  ·simp only [Act.put,aA,aB,aC,i64_w,i32_w]
                   rfl
                  refine pure_ (i:=3) (N:=some 25) (v:=?_) (a':=?_) #[true,true,true,true,false,false,false,false,false,false,false,false,false,false,false,false,false,false,false,false,false,false,false,false,false,false,false,false,false,false,false,false,false] rfl rfl (any_of HT_.out (by kernel_rfl)) (fun _ _ _ h=>h) (Or.inl ⟨by rfl,?_⟩) ?_ ?_
                  rotate_left
                  ·intro w'
                   go_simp
                   with_reducible rfl
                  rotate_left
                  ·simp only [Act.put,aA,aB,aC,i64_w,i32_w]
                   rfl
                  refine pure_ (i:=4) (N:=some 26) (v:=?_) (a':=?_) #[true,true,true,true,true,false,false,false,false,false,false,false,false,false,false,false,false,false,false,false,false,false,false,false,false,false,false,false,false,false,false,false,false] rfl rfl (any_of HT_.out (by kernel_rfl)) (fun _ _ _ h=>h) (Or.inl ⟨by rfl,?_⟩) ?_ ?_
                  rotate_left
                  ·intro w'
                   go_simp
                   with_reducible rfl
                  rotate_left
                  ·simp only [Act.put,aA,aB,aC,i64_w,i32_w]
                   rfl
                  refine pure_ (i:=5) (N:=some 27) (v:=?_) (a':=?_) #[true,true,true,true,true,true,false,false,false,false,false,false,false,false,false,false,false,false,false,false,false,false,false,false,false,false,false,false,false,false,false,false,false] rfl rfl (any_of HT_.out (by kernel_rfl)) (fun _ _ _ h=>h) (Or.inl ⟨by rfl,?_⟩) ?_ ?_
                  rotate_left
                  ·intro w'
                   go_simp
                   with_reducible rfl
                  rotate_left
                  ·simp only [Act.put,aA,aB,aC,i64_w,i32_w]
                   rfl
                  refine pure_ (i:=6) (N:=some 28) (v:=?_) (a':=?_) #[true,true,true,true,true,true,true,false,false,false,false,false,false,false,false,false,false,false,false,false,false,false,false,false,false,false,false,false,false,false,false,false,false] rfl rfl (any_of HT_.out (by kernel_rfl)) (fun _ _ _ h=>h) (Or.inl ⟨by rfl,?_⟩) ?_ ?_
                  rotate_left
                  ·intro w'
                   go_simp
                   with_reducible rfl
                  rotate_left
                  ·simp only [Act.put,aA,aB,aC,i64_w,i32_w]
                   rfl
                  refine take_ (i:=7) (N:=some 29) (v:=?_) (a':=?_) #[true,true,true,true,true,true,true,true,false,false,false,false,false,false,false,false,false,false,false,false,false,false,false,false,false,false,false,false,false,false,false,false,false] rfl rfl (take_ofW HT_.out HW_.out (by kernel_rfl)) (fun _ _ _ h=>h) (Or.inl ⟨by rfl,?_⟩) hHeld ?_ ?_
                  rotate_left
                  ·rintro w' ⟨s0,s1,s2,s3,s4⟩
                   go_simp
                   with_reducible rfl
                  rotate_left
                  ·simp only [Act.put,aA,aB,aC,i64_w,i32_w]
                   rfl
                  refine pure_ (i:=8) (N:=some 30) (v:=?_) (a':=?_) #[true,true,true,true,true,true,true,true,true,false,false,false,false,false,false,false,false,false,false,false,false,false,false,false,false,false,false,false,false,false,false,false,false] rfl rfl (any_of HT_.out (by kernel_rfl)) (fun _ _ _ h=>h) (Or.inl ⟨by rfl,?_⟩) ?_ ?_
                  rotate_left
                  ·intro w'
                   go_simp
                   with_reducible rfl
                  rotate_left
                  ·simp only [Act.put,aA,aB,aC,i64_w,i32_w]
                   rfl
                  refine pure_ (i:=9) (N:=some 31) (v:=?_) (a':=?_) #[true,true,true,true,true,true,true,true,true,true,false,false,false,false,false,false,false,false,false,false,false,false,false,false,false,false,false,false,false,false,false,false,false] rfl rfl (any_of HT_.out (by kernel_rfl)) (fun _ _ _ h=>h) (Or.inl ⟨by rfl,?_⟩) ?_ ?_
                  rotate_left
                  ·intro w'
                   go_simp
                   with_reducible rfl
                  rotate_left
                  ·simp only [Act.put,aA,aB,aC,i64_w,i32_w]
                   rfl
                  refine pure_ (i:=10) (N:=some 32) (v:=?_) (a':=?_) #[true,true,true,true,true,true,true,true,true,true,true,false,false,false,false,false,false,false,false,false,false,false,false,false,false,false,false,false,false,false,false,false,false] rfl rfl (any_of HT_.out (by kernel_rfl)) (fun _ _ _ h=>h) (Or.inl ⟨by rfl,?_⟩) ?_ ?_
                  rotate_left
                  ·intro w'
                   go_simp
                   with_reducible rfl
                  rotate_left
                  ·simp only [Act.put,aA,aB,aC,i64_w,i32_w]
                   rfl
                  refine pure_ (i:=11) (N:=some 33) (v:=?_) (a':=?_) #[true,true,true,true,true,true,true,true,true,true,true,true,false,false,false,false,false,false,false,false,false,false,false,false,false,false,false,false,false,false,false,false,false] rfl rfl (any_of HT_.out (by kernel_rfl)) (fun _ _ _ h=>h) (Or.inl ⟨by rfl,?_⟩) ?_ ?_
                  rotate_left
                  ·intro w'
                   go_simp
                   with_reducible rfl
                  rotate_left
                  ·simp only [Act.put,aA,aB,aC,i64_w,i32_w]
                   rfl
                  refine pure_ (i:=12) (N:=some 34) (v:=?_) (a':=?_) #[true,true,true,true,true,true,true,true,true,true,true,true,true,false,false,false,false,false,false,false,false,false,false,false,false,false,false,false,false,false,false,false,false] rfl rfl (any_of HT_.out (by kernel_rfl)) (fun _ _ _ h=>h) (Or.inl ⟨by rfl,?_⟩) ?_ ?_
                  rotate_left
                  ·intro w'
                   go_simp
                   with_reducible rfl
                  rotate_left
                  ·simp only [Act.put,aA,aB,aC,i64_w,i32_w]
                   rfl
                  refine pure_ (i:=13) (N:=some 35) (v:=?_) (a':=?_) #[true,true,true,true,true,true,true,true,true,true,true,true,true,true,false,false,false,false,false,false,false,false,false,false,false,false,false,false,false,false,false,false,false] rfl rfl (any_of HT_.out (by kernel_rfl)) (fun _ _ _ h=>h) (Or.inl ⟨by rfl,?_⟩) ?_ ?_
                  rotate_left
                  ·intro w'
                   go_simp
                   with_reducible rfl
                  rotate_left
                  ·simp only [Act.put,aA,aB,aC,i64_w,i32_w]
                   rfl
                  refine pure_ (i:=15) (N:=some 37) (v:=?_) (a':=?_) #[true,true,true,true,true,true,true,true,true,true,true,true,true,true,false,true,false,false,false,false,false,false,false,false,false,false,false,false,false,false,false,false,false] rfl rfl (any_of HT_.out (by kernel_rfl)) (fun _ _ _ h=>h) (Or.inl ⟨by rfl,?_⟩) ?_ ?_
                  rotate_left
                  ·intro w'
                   go_simp
                   with_reducible rfl
                  rotate_left
                  ·simp only [Act.put,aA,aB,aC,i64_w,i32_w]
                   rfl
                  refine pure_ (i:=16) (N:=some 38) (v:=?_) (a':=?_) #[true,true,true,true,true,true,true,true,true,true,true,true,true,true,false,true,true,false,false,false,false,false,false,false,false,false,false,false,false,false,false,false,false] rfl rfl (any_of HT_.out (by kernel_rfl)) (fun _ _ _ h=>h) (Or.inl ⟨by rfl,?_⟩) ?_ ?_
                  rotate_left
                  ·intro w'
                   go_simp
                   with_reducible rfl
                  rotate_left
                  ·simp only [Act.put,aA,aB,aC,i64_w,i32_w]
                   rfl
                  refine pure_ (i:=17) (N:=some 39) (v:=?_) (a':=?_) #[true,true,true,true,true,true,true,true,true,true,true,true,true,true,false,true,true,true,false,false,false,false,false,false,false,false,false,false,false,false,false,false,false] rfl rfl (any_of HT_.out (by kernel_rfl)) (fun _ _ _ h=>h) (Or.inl ⟨by rfl,?_⟩) ?_ ?_
                  rotate_left
                  ·intro w'
                   go_simp
                   with_reducible rfl
                  rotate_left
                  ·simp only [Act.put,aA,aB,aC,i64_w,i32_w]
                   rfl
                  refine pure_ (i:=21) (N:=some 43) (v:=?_) (a':=?_) #[true,true,true,true,true,true,true,true,true,true,true,true,true,true,false,true,true,true,false,false,false,true,false,false,false,false,false,false,false,false,false,false,false] rfl rfl (any_of HT_.out (by kernel_rfl)) (fun _ _ _ h=>h) (Or.inl ⟨by rfl,?_⟩) ?_ ?_
                  rotate_left
                  ·intro w'
                   go_simp
                   with_reducible rfl
                  rotate_left
                  ·simp only [Act.put,aA,aB,aC,i64_w,i32_w]
                   rfl
                  refine pure_ (i:=22) (N:=some 44) (v:=?_) (a':=?_) #[true,true,true,true,true,true,true,true,true,true,true,true,true,true,false,true,true,true,false,false,false,true,true,false,false,false,false,false,false,false,false,false,false] rfl rfl (any_of HT_.out (by kernel_rfl)) (fun _ _ _ h=>h) (Or.inl ⟨by rfl,?_⟩) ?_ ?_
                  rotate_left
                  ·intro w'
                   go_simp
                   with_reducible rfl
                  rotate_left
                  ·simp only [Act.put,aA,aB,aC,i64_w,i32_w]
                   rfl
                  refine pure_ (i:=23) (N:=some 45) (v:=?_) (a':=?_) #[true,true,true,true,true,true,true,true,true,true,true,true,true,true,false,true,true,true,false,false,false,true,true,true,false,false,false,false,false,false,false,false,false] rfl rfl (any_of HT_.out (by kernel_rfl)) (fun _ _ _ h=>h) (Or.inl ⟨by rfl,?_⟩) ?_ ?_
                  rotate_left
                  ·intro w'
                   go_simp
                   with_reducible rfl
                  rotate_left
                  ·simp only [Act.put,aA,aB,aC,i64_w,i32_w]
                   rfl
                  refine pure_ (i:=25) (N:=some 47) (v:=?_) (a':=?_) #[true,true,true,true,true,true,true,true,true,true,true,true,true,true,false,true,true,true,false,false,false,true,true,true,false,true,false,false,false,false,false,false,false] rfl rfl (any_of HT_.out (by kernel_rfl)) (fun _ _ _ h=>h) (Or.inl ⟨by rfl,?_⟩) ?_ ?_
                  rotate_left
                  ·intro w'
                   go_simp
                   with_reducible rfl
                  rotate_left
                  ·simp only [Act.put,aA,aB,aC,i64_w,i32_w]
                   rfl
                  refine pure_ (i:=26) (N:=some 48) (v:=?_) (a':=?_) #[true,true,true,true,true,true,true,true,true,true,true,true,true,true,false,true,true,true,false,false,false,true,true,true,false,true,true,false,false,false,false,false,false] rfl rfl (any_of HT_.out (by kernel_rfl)) (fun _ _ _ h=>h) (Or.inl ⟨by rfl,?_⟩) ?_ ?_
                  rotate_left
                  ·intro w'
                   go_simp
                   with_reducible rfl
                  rotate_left
                  ·simp only [Act.put,aA,aB,aC,i64_w,i32_w]
                   rfl
                  refine pure_ (i:=27) (N:=some 49) (v:=?_) (a':=?_) #[true,true,true,true,true,true,true,true,true,true,true,true,true,true,false,true,true,true,false,false,false,true,true,true,false,true,true,true,false,false,false,false,false] rfl rfl (any_of HT_.out (by kernel_rfl)) (fun _ _ _ h=>h) (Or.inl ⟨by rfl,?_⟩) ?_ ?_
                  rotate_left
                  ·intro w'
                   go_simp
                   with_reducible rfl
                  rotate_left
                  ·simp only [Act.put,aA,aB,aC,i64_w,i32_w]
                   rfl
                  refine take_ (i:=14) (N:=some 36) (v:=?_) (a':=?_) #[true,true,true,true,true,true,true,true,true,true,true,true,true,true,true,true,true,true,false,false,false,true,true,true,false,true,true,true,false,false,false,false,false] rfl rfl (take_ofW HT_.out HW_.out (by kernel_rfl)) (fun _ _ _ h=>h) (Or.inl ⟨by rfl,?_⟩) hHeld ?_ ?_
                  rotate_left
                  ·rintro w' ⟨s0,s1,s2,s3,s4⟩
                   go_simp
                   with_reducible rfl
                  rotate_left
                  ·simp only [Act.put,aA,aB,aC,i64_w,i32_w]
                   rfl
                  refine take_ (i:=18) (N:=some 40) (v:=?_) (a':=?_) #[true,true,true,true,true,true,true,true,true,true,true,true,true,true,true,true,true,true,true,false,false,true,true,true,false,true,true,true,false,false,false,false,false] rfl rfl (take_ofW HT_.out HW_.out (by kernel_rfl)) (fun _ _ _ h=>h) (Or.inl ⟨by rfl,?_⟩) hHeld ?_ ?_
                  rotate_left
                  ·rintro w' ⟨s0,s1,s2,s3,s4⟩
                   go_simp
                   with_reducible rfl
                  rotate_left
                  ·simp only [Act.put,aA,aB,aC,i64_w,i32_w]
                   rfl
                  refine pure_ (i:=19) (N:=some 41) (v:=?_) (a':=?_) #[true,true,true,true,true,true,true,true,true,true,true,true,true,true,true,true,true,true,true,true,false,true,true,true,false,true,true,true,false,false,false,false,false] rfl rfl (any_of HT_.out (by kernel_rfl)) (fun _ _ _ h=>h) (Or.inl ⟨by rfl,?_⟩) ?_ ?_
                  rotate_left
                  ·intro w'
                   go_simp
                   with_reducible rfl
                  rotate_left
                  ·simp only [Act.put,aA,aB,aC,i64_w,i32_w]
                   rfl
                  refine take_ (i:=24) (N:=some 46) (v:=?_) (a':=?_) #[true,true,true,true,true,true,true,true,true,true,true,true,true,true,true,true,true,true,true,true,false,true,true,true,true,true,true,true,false,false,false,false,false] rfl rfl (take_ofW HT_.out HW_.out (by kernel_rfl)) (fun _ _ _ h=>h) (Or.inl ⟨by rfl,?_⟩) hHeld ?_ ?_
                  rotate_left
                  ·rintro w' ⟨s0,s1,s2,s3,s4⟩
                   go_simp
                   with_reducible rfl
                  rotate_left
                  ·simp only [Act.put,aA,aB,aC,i64_w,i32_w]
                   rfl
                  refine take_ (i:=28) (N:=some 50) (v:=?_) (a':=?_) #[true,true,true,true,true,true,true,true,true,true,true,true,true,true,true,true,true,true,true,true,false,true,true,true,true,true,true,true,true,false,false,false,false] rfl rfl (take_ofW HT_.out HW_.out (by kernel_rfl)) (fun _ _ _ h=>h) (Or.inl ⟨by rfl,?_⟩) hHeld ?_ ?_
                  rotate_left
                  ·rintro w' ⟨s0,s1,s2,s3,s4⟩
                   go_simp
                   with_reducible rfl
                  rotate_left
                  ·simp only [Act.put,aA,aB,aC,i64_w,i32_w]
                   rfl
                  refine one_ (i:=20) (N:=some 42) #[true,true,true,true,true,true,true,true,true,true,true,true,true,true,true,true,true,true,true,true,true,true,true,true,true,true,true,true,true,false,false,false,false] rfl rfl (one_of HT_.out (by kernel_rfl)) (by decide) (fun K hK=>?_)
                  first|(refine goes_ Try.func199 (by kernel_rfl) rfl #[.int .i64 (rd l0 x14_1),.int .i64 (wrap64 ((rd l1 x14_1) - 1))] (by rfl) rfl rfl (by (try simp only [aD,aE,aF]);first|done|rfl|(simp only [aG,aH];rfl)) ?_)|(refine call_ 199 #[.int .i64 (rd l0 x14_1),.int .i64 (wrap64 ((rd l1 x14_1) - 1))] (by rfl) rfl (by unfold execOp;simp [resolve,Deferred.ofValue,invoke,Act.eval,enters_ Try.func199 (by kernel_rfl) rfl]) ?_)
                  with_reducible refine (impl_gain.calls k2 (rd l0 x14_1) (wrap64 ((rd l1 x14_1) - 1)) t105 t106 _ A14.out).mono ?_
                  rintro e w26 ⟨rfl,hb⟩
                  refine ⟨_,rfl,?_⟩;have n0_:=aM (Qi (by repeat (first|(with_reducible first|exact HB.out|apply Qc|apply Qa|apply Qb)|exact HB.out)) hb);clear HB;have HB:=n0_;clear n0_;(try clear hb);(try clear hb2);(try clear hk);(try clear hi);refine hK.out _ _ ⟨((HB.out.cell (aI w _ hw102_0)).trans hw102_0),((HB.out.cell (aI w _ hw103_0)).trans hw103_0),((HB.out.cell (aI w _ hw104_0)).trans hw104_0),((HB.out.cell (aI w _ hw107_0)).trans hw107_0),((HB.out.cell (aI w _ hw108_0)).trans hw108_0)⟩ (fun hHeld=>?_);clear hK K;refine norm_ (a':=?_) ?_ ?_
                  rotate_left
                  ·show Act.put _ (some 42) _=_
                   simp only [Act.put,aA,aB,aC,i64_w,i32_w]
                   rfl
                  refine one_ (i:=29) (N:=some 51) #[true,true,true,true,true,true,true,true,true,true,true,true,true,true,true,true,true,true,true,true,true,true,true,true,true,true,true,true,true,true,false,false,false] rfl rfl (one_of HT_.out (by kernel_rfl)) (by decide) (fun K hK=>?_)
                  first|(refine goes_ Try.func199 (by kernel_rfl) rfl #[.int .i64 (rd l0 x19_2),.int .i64 (rd l1 x19_2)] (by rfl) rfl rfl (by (try simp only [aD,aE,aF]);first|done|rfl|(simp only [aG,aH];rfl)) ?_)|(refine call_ 199 #[.int .i64 (rd l0 x19_2),.int .i64 (rd l1 x19_2)] (by rfl) rfl (by unfold execOp;simp [resolve,Deferred.ofValue,invoke,Act.eval,enters_ Try.func199 (by kernel_rfl) rfl]) ?_)
                  with_reducible refine (impl_gain.calls k2 (rd l0 x19_2) (rd l1 x19_2) t109 t110 _ A18.out).mono ?_
                  rintro e w27 ⟨rfl,hb⟩
                  refine ⟨_,rfl,?_⟩;have n0_:=aM (Qi (by repeat (first|(with_reducible first|exact HB.out|apply Qc|apply Qa|apply Qb)|exact HB.out)) hb);clear HB;have HB:=n0_;clear n0_;(try clear hb);(try clear hb2);(try clear hk);(try clear hi);refine hK.out _ _ ⟨((HB.out.cell (aI w _ hw102_0)).trans hw102_0),((HB.out.cell (aI w _ hw103_0)).trans hw103_0),((HB.out.cell (aI w _ hw104_0)).trans hw104_0),((HB.out.cell (aI w _ hw107_0)).trans hw107_0),((HB.out.cell (aI w _ hw108_0)).trans hw108_0)⟩ (fun hHeld=>?_);clear hK K;refine norm_ (a':=?_) ?_ ?_
                  rotate_left
                  ·show Act.put _ (some 51) _=_
                   simp only [Act.put,aA,aB,aC,i64_w,i32_w]
                   rfl
                  refine one_ (i:=30) (N:=some 52) #[true,true,true,true,true,true,true,true,true,true,true,true,true,true,true,true,true,true,true,true,true,true,true,true,true,true,true,true,true,true,true,false,false] rfl rfl (one_of HT_.out (by kernel_rfl)) (by decide) (fun K hK=>?_)
                  first|(refine goes_ Try.func158 (by kernel_rfl) rfl #[.agg #[.int .i64 t105,.int .i64 t106],.agg #[.int .i64 t109,.int .i64 t110]] (by rfl) rfl rfl (by (try simp only [aD,aE,aF]);first|done|rfl|(simp only [aG,aH];rfl)) ?_)|(refine call_ 158 #[.agg #[.int .i64 t105,.int .i64 t106],.agg #[.int .i64 t109,.int .i64 t110]] (by rfl) rfl (by unfold execOp;simp [resolve,Deferred.ofValue,invoke,Act.eval,enters_ Try.func158 (by kernel_rfl) rfl]) ?_)
                  with_reducible refine (impl_compareFracs.calls t105 t106 t109 t110 t111 _ A19.out).mono ?_
                  rintro e w28 ⟨rfl,hb⟩
                  refine ⟨_,rfl,?_⟩;have n0_:=aM (Qi (by repeat (first|(with_reducible first|exact HB.out|apply Qc|apply Qa|apply Qb)|exact HB.out)) hb);clear HB;have HB:=n0_;clear n0_;(try clear hb);(try clear hb2);(try clear hk);(try clear hi);refine hK.out _ _ ⟨((HB.out.cell (aI w _ hw102_0)).trans hw102_0),((HB.out.cell (aI w _ hw103_0)).trans hw103_0),((HB.out.cell (aI w _ hw104_0)).trans hw104_0),((HB.out.cell (aI w _ hw107_0)).trans hw107_0),((HB.out.cell (aI w _ hw108_0)).trans hw108_0)⟩ (fun hHeld=>?_);clear hK K;refine norm_ (a':=?_) ?_ ?_
                  rotate_left
                  ·show Act.put _ (some 52) _=_
                   simp only [Act.put,aA,aB,aC,i64_w,i32_w]
                   rfl
                  refine pure_ (i:=31) (N:=some 53) (v:=?_) (a':=?_) #[true,true,true,true,true,true,true,true,true,true,true,true,true,true,true,true,true,true,true,true,true,true,true,true,true,true,true,true,true,true,true,true,false] rfl rfl (any_of HT_.out (by kernel_rfl)) (fun _ _ _ h=>h) (Or.inl ⟨by rfl,?_⟩) ?_ ?_
                  rotate_left
                  ·intro w'
                   go_simp
                   with_reducible rfl
                  rotate_left
                  ·simp only [Act.put,aA,aB,aC,i64_w,i32_w]
                   rfl
                  refine pure_ (i:=32) (N:=some 54) (v:=?_) (a':=?_) #[true,true,true,true,true,true,true,true,true,true,true,true,true,true,true,true,true,true,true,true,true,true,true,true,true,true,true,true,true,true,true,true,true] rfl rfl (any_of HT_.out (by kernel_rfl)) (fun _ _ _ h=>h) (Or.inl ⟨by rfl,?_⟩) ?_ ?_
                  rotate_left
                  ·intro w'
                   go_simp
                   with_reducible rfl
                  rotate_left
                  ·simp only [Act.put,aA,aB,aC,i64_w,i32_w]
                   rfl
                  refine done_ (done_of HT_.out (by kernel_rfl)) ?_
                  try go_wp2
                  go_roundg k2
                  case measure=>have:=HK1.out;have:=HK2.out;omega
                  case rel=>exact ⟨(wrap64 (x19_2+1)),(by first|rfl|(simp;done)|(simp [*];done)),H',⟨by have:=HK1.out;have:=HK2.out;omega⟩,⟨by repeat (first|(with_reducible first|exact HB.out|apply Qc|apply Qa|apply Qb)|exact HB.out)⟩⟩
                ·rw [if_neg c17] at H;exact absurd H (by simp)
               ·rw [if_neg c16] at H;exact absurd H (by simp)
              ·rw [if_neg c15] at H;exact absurd H (by simp)
             ·rw [if_neg c13] at H;exact absurd H (by simp)
            ·rw [if_neg c12] at H;have c12b0:decide (1<(rd l1 x14_1))=false:=decide_eq_false c12;clear c12;have H':=aM H;clear H
             try go_wp2
             have n0_:=aM (Qb HB.out);clear HB;have HB:=n0_;clear n0_;have p102:0≤(x14_1:Int):=of_decide_eq_true (by first|(with_reducible assumption)|assumption);have q102:x14_1<(l1.length:Int):=of_decide_eq_true (by first|(with_reducible assumption)|assumption);obtain ⟨ad102,e102,hx102_0⟩:=Kd.at_int HR1.out x14_1 p102 q102;have hw102_0:=hx102_0
             cases e102
             replace hx102_0:=(HB.out.cell (aI w _ hx102_0)).trans hx102_0;replace p102:=eq_true p102;replace q102:=eq_true q102;refine start_ (n:=33) (S:=fun w'=>w'.cell? (ad102.add (x14_1).toNat)=some (.int .i64 (rd l1 x14_1))) (ds:=[]) #[false,false,false,false,false,false,false,false,false,false,false,false,false,false,false,false,false,false,false,false,false,false,false,false,false,false,false,false,false,false,false,false,false] (by kernel_rfl) rfl rfl (((HB.out.cell (aI w _ hw102_0)).trans hw102_0)) (fun hHeld=>?_);refine with_tabW impl_IsStable.tab9 impl_IsStable.bits9 (fun HT_ HW_=>?_)
             generalize wr.drew=w29 at HB hx102_0 hHeld ⊢
             refine pure_ (i:=0) (N:=some 22) (v:=?_) (a':=?_) #[true,false,false,false,false,false,false,false,false,false,false,false,false,false,false,false,false,false,false,false,false,false,false,false,false,false,false,false,false,false,false,false,false] rfl rfl (any_of HT_.out (by kernel_rfl)) (fun _ _ _ h=>h) (Or.inl ⟨by rfl,?_⟩) ?_ ?_
             rotate_left
             ·intro w'
              go_simp
              with_reducible rfl
             rotate_left
             ·simp only [Act.put,aA,aB,aC,i64_w,i32_w]
              rfl
             refine pure_ (i:=1) (N:=some 23) (v:=?_) (a':=?_) #[true,true,false,false,false,false,false,false,false,false,false,false,false,false,false,false,false,false,false,false,false,false,false,false,false,false,false,false,false,false,false,false,false] rfl rfl (any_of HT_.out (by kernel_rfl)) (fun _ _ _ h=>h) (Or.inl ⟨by rfl,?_⟩) ?_ ?_
             rotate_left
             ·intro w'
              go_simp
              with_reducible rfl
             rotate_left
             ·simp only [Act.put,aA,aB,aC,i64_w,i32_w]
              rfl
             refine pure_ (i:=2) (N:=some 24) (v:=?_) (a':=?_) #[true,true,true,false,false,false,false,false,false,false,false,false,false,false,false,false,false,false,false,false,false,false,false,false,false,false,false,false,false,false,false,false,false] rfl rfl (any_of HT_.out (by kernel_rfl)) (fun _ _ _ h=>h) (Or.inl ⟨by rfl,?_⟩) ?_ ?_
             rotate_left
             ·intro w'
              go_simp
              with_reducible rfl
             rotate_left
             ·simp only [Act.put,aA,aB,aC,i64_w,i32_w]
              rfl
             refine pure_ (i:=3) (N:=some 25) (v:=?_) (a':=?_) #[true,true,true,true,false,false,false,false,false,false,false,false,false,false,false,false,false,false,false,false,false,false,false,false,false,false,false,false,false,false,false,false,false] rfl rfl (any_of HT_.out (by kernel_rfl)) (fun _ _ _ h=>h) (Or.inl ⟨by rfl,?_⟩) ?_ ?_
             rotate_left
             ·intro w'
              go_simp
              with_reducible rfl
             rotate_left
             ·simp only [Act.put,aA,aB,aC,i64_w,i32_w]
              rfl
             refine pure_ (i:=4) (N:=some 26) (v:=?_) (a':=?_) #[true,true,true,true,true,false,false,false,false,false,false,false,false,false,false,false,false,false,false,false,false,false,false,false,false,false,false,false,false,false,false,false,false] rfl rfl (any_of HT_.out (by kernel_rfl)) (fun _ _ _ h=>h) (Or.inl ⟨by rfl,?_⟩) ?_ ?_
             rotate_left
             ·intro w'
              go_simp
              with_reducible rfl
             rotate_left
             ·simp only [Act.put,aA,aB,aC,i64_w,i32_w]
              rfl
             refine pure_ (i:=5) (N:=some 27) (v:=?_) (a':=?_) #[true,true,true,true,true,true,false,false,false,false,false,false,false,false,false,false,false,false,false,false,false,false,false,false,false,false,false,false,false,false,false,false,false] rfl rfl (any_of HT_.out (by kernel_rfl)) (fun _ _ _ h=>h) (Or.inl ⟨by rfl,?_⟩) ?_ ?_
             rotate_left
             ·intro w'
              go_simp
              with_reducible rfl
             rotate_left
             ·simp only [Act.put,aA,aB,aC,i64_w,i32_w]
              rfl
             refine pure_ (i:=6) (N:=some 28) (v:=?_) (a':=?_) #[true,true,true,true,true,true,true,false,false,false,false,false,false,false,false,false,false,false,false,false,false,false,false,false,false,false,false,false,false,false,false,false,false] rfl rfl (any_of HT_.out (by kernel_rfl)) (fun _ _ _ h=>h) (Or.inl ⟨by rfl,?_⟩) ?_ ?_
             rotate_left
             ·intro w'
              go_simp
              with_reducible rfl
             rotate_left
             ·simp only [Act.put,aA,aB,aC,i64_w,i32_w]
              rfl
             refine take_ (i:=7) (N:=some 29) (v:=?_) (a':=?_) #[true,true,true,true,true,true,true,true,false,false,false,false,false,false,false,false,false,false,false,false,false,false,false,false,false,false,false,false,false,false,false,false,false] rfl rfl (take_ofW HT_.out HW_.out (by kernel_rfl)) (fun _ _ _ h=>h) (Or.inl ⟨by rfl,?_⟩) hHeld ?_ ?_
             rotate_left
             ·intro w' s0
              go_simp
              with_reducible rfl
             rotate_left
             ·simp only [Act.put,aA,aB,aC,i64_w,i32_w]
              rfl
             refine pure_ (i:=8) (N:=some 30) (v:=?_) (a':=?_) #[true,true,true,true,true,true,true,true,true,false,false,false,false,false,false,false,false,false,false,false,false,false,false,false,false,false,false,false,false,false,false,false,false] rfl rfl (any_of HT_.out (by kernel_rfl)) (fun _ _ _ h=>h) (Or.inl ⟨by rfl,?_⟩) ?_ ?_
             rotate_left
             ·intro w'
              go_simp
              with_reducible rfl
             rotate_left
             ·simp only [Act.put,aA,aB,aC,i64_w,i32_w]
              rfl
             refine pure_ (i:=9) (N:=some 31) (v:=?_) (a':=?_) #[true,true,true,true,true,true,true,true,true,true,false,false,false,false,false,false,false,false,false,false,false,false,false,false,false,false,false,false,false,false,false,false,false] rfl rfl (any_of HT_.out (by kernel_rfl)) (fun _ _ _ h=>h) (Or.inl ⟨by rfl,?_⟩) ?_ ?_
             rotate_left
             ·intro w'
              go_simp
              with_reducible rfl
             rotate_left
             ·simp only [Act.put,aA,aB,aC,i64_w,i32_w]
              rfl
             refine pure_ (i:=10) (N:=some 32) (v:=?_) (a':=?_) #[true,true,true,true,true,true,true,true,true,true,true,false,false,false,false,false,false,false,false,false,false,false,false,false,false,false,false,false,false,false,false,false,false] rfl rfl (any_of HT_.out (by kernel_rfl)) (fun _ _ _ h=>h) (Or.inl ⟨by rfl,?_⟩) ?_ ?_
             rotate_left
             ·intro w'
              go_simp
              with_reducible rfl
             rotate_left
             ·simp only [Act.put,aA,aB,aC,i64_w,i32_w]
              rfl
             refine pure_ (i:=11) (N:=some 33) (v:=undef) (a':=?_) #[true,true,true,true,true,true,true,true,true,true,true,true,false,false,false,false,false,false,false,false,false,false,false,false,false,false,false,false,false,false,false,false,false] rfl rfl (any_of HT_.out (by kernel_rfl)) (fun _ _ _ h=>h) (Or.inr ⟨by rfl,rfl⟩) ?_ ?_
             rotate_left
             ·simp only [Act.put,aA,aB,aC,i64_w,i32_w]
              rfl
             refine pure_ (i:=12) (N:=some 34) (v:=undef) (a':=?_) #[true,true,true,true,true,true,true,true,true,true,true,true,true,false,false,false,false,false,false,false,false,false,false,false,false,false,false,false,false,false,false,false,false] rfl rfl (any_of HT_.out (by kernel_rfl)) (fun _ _ _ h=>h) (Or.inr ⟨by rfl,rfl⟩) ?_ ?_
             rotate_left
             ·simp only [Act.put,aA,aB,aC,i64_w,i32_w]
              rfl
             refine pure_ (i:=13) (N:=some 35) (v:=undef) (a':=?_) #[true,true,true,true,true,true,true,true,true,true,true,true,true,true,false,false,false,false,false,false,false,false,false,false,false,false,false,false,false,false,false,false,false] rfl rfl (any_of HT_.out (by kernel_rfl)) (fun _ _ _ h=>h) (Or.inr ⟨by rfl,rfl⟩) ?_ ?_
             rotate_left
             ·simp only [Act.put,aA,aB,aC,i64_w,i32_w]
              rfl
             refine pure_ (i:=14) (N:=some 36) (v:=undef) (a':=?_) #[true,true,true,true,true,true,true,true,true,true,true,true,true,true,true,false,false,false,false,false,false,false,false,false,false,false,false,false,false,false,false,false,false] rfl rfl (any_of HT_.out (by kernel_rfl)) (fun _ _ _ h=>h) (Or.inr ⟨by rfl,rfl⟩) ?_ ?_
             rotate_left
             ·simp only [Act.put,aA,aB,aC,i64_w,i32_w]
              rfl
             refine pure_ (i:=15) (N:=some 37) (v:=undef) (a':=?_) #[true,true,true,true,true,true,true,true,true,true,true,true,true,true,true,true,false,false,false,false,false,false,false,false,false,false,false,false,false,false,false,false,false] rfl rfl (any_of HT_.out (by kernel_rfl)) (fun _ _ _ h=>h) (Or.inr ⟨by rfl,rfl⟩) ?_ ?_
             rotate_left
             ·simp only [Act.put,aA,aB,aC,i64_w,i32_w]
              rfl
             refine pure_ (i:=16) (N:=some 38) (v:=undef) (a':=?_) #[true,true,true,true,true,true,true,true,true,true,true,true,true,true,true,true,true,false,false,false,false,false,false,false,false,false,false,false,false,false,false,false,false] rfl rfl (any_of HT_.out (by kernel_rfl)) (fun _ _ _ h=>h) (Or.inr ⟨by rfl,rfl⟩) ?_ ?_
             rotate_left
             ·simp only [Act.put,aA,aB,aC,i64_w,i32_w]
              rfl
             refine pure_ (i:=17) (N:=some 39) (v:=undef) (a':=?_) #[true,true,true,true,true,true,true,true,true,true,true,true,true,true,true,true,true,true,false,false,false,false,false,false,false,false,false,false,false,false,false,false,false] rfl rfl (any_of HT_.out (by kernel_rfl)) (fun _ _ _ h=>h) (Or.inr ⟨by rfl,rfl⟩) ?_ ?_
             rotate_left
             ·simp only [Act.put,aA,aB,aC,i64_w,i32_w]
              rfl
             refine pure_ (i:=18) (N:=some 40) (v:=undef) (a':=?_) #[true,true,true,true,true,true,true,true,true,true,true,true,true,true,true,true,true,true,true,false,false,false,false,false,false,false,false,false,false,false,false,false,false] rfl rfl (any_of HT_.out (by kernel_rfl)) (fun _ _ _ h=>h) (Or.inr ⟨by rfl,rfl⟩) ?_ ?_
             rotate_left
             ·simp only [Act.put,aA,aB,aC,i64_w,i32_w]
              rfl
             refine pure_ (i:=19) (N:=some 41) (v:=undef) (a':=?_) #[true,true,true,true,true,true,true,true,true,true,true,true,true,true,true,true,true,true,true,true,false,false,false,false,false,false,false,false,false,false,false,false,false] rfl rfl (any_of HT_.out (by kernel_rfl)) (fun _ _ _ h=>h) (Or.inr ⟨by rfl,rfl⟩) ?_ ?_
             rotate_left
             ·simp only [Act.put,aA,aB,aC,i64_w,i32_w]
              rfl
             refine pure_ (i:=20) (N:=some 42) (v:=undef) (a':=?_) #[true,true,true,true,true,true,true,true,true,true,true,true,true,true,true,true,true,true,true,true,true,false,false,false,false,false,false,false,false,false,false,false,false] rfl rfl (any_of HT_.out (by kernel_rfl)) (fun _ _ _ h=>h) (Or.inr ⟨by rfl,rfl⟩) ?_ ?_
             rotate_left
             ·simp only [Act.put,aA,aB,aC,i64_w,i32_w]
              rfl
             refine pure_ (i:=21) (N:=some 43) (v:=undef) (a':=?_) #[true,true,true,true,true,true,true,true,true,true,true,true,true,true,true,true,true,true,true,true,true,true,false,false,false,false,false,false,false,false,false,false,false] rfl rfl (any_of HT_.out (by kernel_rfl)) (fun _ _ _ h=>h) (Or.inr ⟨by rfl,rfl⟩) ?_ ?_
             rotate_left
             ·simp only [Act.put,aA,aB,aC,i64_w,i32_w]
              rfl
             refine pure_ (i:=22) (N:=some 44) (v:=undef) (a':=?_) #[true,true,true,true,true,true,true,true,true,true,true,true,true,true,true,true,true,true,true,true,true,true,true,false,false,false,false,false,false,false,false,false,false] rfl rfl (any_of HT_.out (by kernel_rfl)) (fun _ _ _ h=>h) (Or.inr ⟨by rfl,rfl⟩) ?_ ?_
             rotate_left
             ·simp only [Act.put,aA,aB,aC,i64_w,i32_w]
              rfl
             refine pure_ (i:=23) (N:=some 45) (v:=undef) (a':=?_) #[true,true,true,true,true,true,true,true,true,true,true,true,true,true,true,true,true,true,true,true,true,true,true,true,false,false,false,false,false,false,false,false,false] rfl rfl (any_of HT_.out (by kernel_rfl)) (fun _ _ _ h=>h) (Or.inr ⟨by rfl,rfl⟩) ?_ ?_
             rotate_left
             ·simp only [Act.put,aA,aB,aC,i64_w,i32_w]
              rfl
             refine pure_ (i:=24) (N:=some 46) (v:=undef) (a':=?_) #[true,true,true,true,true,true,true,true,true,true,true,true,true,true,true,true,true,true,true,true,true,true,true,true,true,false,false,false,false,false,false,false,false] rfl rfl (any_of HT_.out (by kernel_rfl)) (fun _ _ _ h=>h) (Or.inr ⟨by rfl,rfl⟩) ?_ ?_
             rotate_left
             ·simp only [Act.put,aA,aB,aC,i64_w,i32_w]
              rfl
             refine pure_ (i:=25) (N:=some 47) (v:=undef) (a':=?_) #[true,true,true,true,true,true,true,true,true,true,true,true,true,true,true,true,true,true,true,true,true,true,true,true,true,true,false,false,false,false,false,false,false] rfl rfl (any_of HT_.out (by kernel_rfl)) (fun _ _ _ h=>h) (Or.inr ⟨by rfl,rfl⟩) ?_ ?_
             rotate_left
             ·simp only [Act.put,aA,aB,aC,i64_w,i32_w]
              rfl
             refine pure_ (i:=26) (N:=some 48) (v:=undef) (a':=?_) #[true,true,true,true,true,true,true,true,true,true,true,true,true,true,true,true,true,true,true,true,true,true,true,true,true,true,true,false,false,false,false,false,false] rfl rfl (any_of HT_.out (by kernel_rfl)) (fun _ _ _ h=>h) (Or.inr ⟨by rfl,rfl⟩) ?_ ?_
             rotate_left
             ·simp only [Act.put,aA,aB,aC,i64_w,i32_w]
              rfl
             refine pure_ (i:=27) (N:=some 49) (v:=undef) (a':=?_) #[true,true,true,true,true,true,true,true,true,true,true,true,true,true,true,true,true,true,true,true,true,true,true,true,true,true,true,true,false,false,false,false,false] rfl rfl (any_of HT_.out (by kernel_rfl)) (fun _ _ _ h=>h) (Or.inr ⟨by rfl,rfl⟩) ?_ ?_
             rotate_left
             ·simp only [Act.put,aA,aB,aC,i64_w,i32_w]
              rfl
             refine pure_ (i:=28) (N:=some 50) (v:=undef) (a':=?_) #[true,true,true,true,true,true,true,true,true,true,true,true,true,true,true,true,true,true,true,true,true,true,true,true,true,true,true,true,true,false,false,false,false] rfl rfl (any_of HT_.out (by kernel_rfl)) (fun _ _ _ h=>h) (Or.inr ⟨by rfl,rfl⟩) ?_ ?_
             rotate_left
             ·simp only [Act.put,aA,aB,aC,i64_w,i32_w]
              rfl
             refine pure_ (i:=29) (N:=some 51) (v:=undef) (a':=?_) #[true,true,true,true,true,true,true,true,true,true,true,true,true,true,true,true,true,true,true,true,true,true,true,true,true,true,true,true,true,true,false,false,false] rfl rfl (any_of HT_.out (by kernel_rfl)) (fun _ _ _ h=>h) (Or.inr ⟨by rfl,rfl⟩) ?_ ?_
             rotate_left
             ·simp only [Act.put,aA,aB,aC,i64_w,i32_w]
              rfl
             refine pure_ (i:=30) (N:=some 52) (v:=undef) (a':=?_) #[true,true,true,true,true,true,true,true,true,true,true,true,true,true,true,true,true,true,true,true,true,true,true,true,true,true,true,true,true,true,true,false,false] rfl rfl (any_of HT_.out (by kernel_rfl)) (fun _ _ _ h=>h) (Or.inr ⟨by rfl,rfl⟩) ?_ ?_
             rotate_left
             ·simp only [Act.put,aA,aB,aC,i64_w,i32_w]
              rfl
             refine pure_ (i:=31) (N:=some 53) (v:=undef) (a':=?_) #[true,true,true,true,true,true,true,true,true,true,true,true,true,true,true,true,true,true,true,true,true,true,true,true,true,true,true,true,true,true,true,true,false] rfl rfl (any_of HT_.out (by kernel_rfl)) (fun _ _ _ h=>h) (Or.inr ⟨by rfl,rfl⟩) ?_ ?_
             rotate_left
             ·simp only [Act.put,aA,aB,aC,i64_w,i32_w]
              rfl
             refine pure_ (i:=32) (N:=some 54) (v:=?_) (a':=?_) #[true,true,true,true,true,true,true,true,true,true,true,true,true,true,true,true,true,true,true,true,true,true,true,true,true,true,true,true,true,true,true,true,true] rfl rfl (any_of HT_.out (by kernel_rfl)) (fun _ _ _ h=>h) (Or.inl ⟨by rfl,?_⟩) ?_ ?_
             rotate_left
             ·intro w'
              go_simp
              with_reducible rfl
             rotate_left
             ·simp only [Act.put,aA,aB,aC,i64_w,i32_w]
              rfl
             refine done_ (done_of HT_.out (by kernel_rfl)) ?_
             try go_wp2
             go_roundg k2
             case measure=>have:=HK1.out;have:=HK2.out;omega
             case rel=>exact ⟨(wrap64 (x19_2+1)),(by first|rfl|(simp;done)|(simp [*];done)),H',⟨by have:=HK1.out;have:=HK2.out;omega⟩,⟨by repeat (first|(with_reducible first|exact HB.out|apply Qc|apply Qa|apply Qb)|exact HB.out)⟩⟩
           ·rw [if_neg c11] at H;exact absurd H (by simp)
          ·rw [if_neg c10] at H;exact absurd H (by simp)
        ·rw [if_neg c7] at H;have c7b0:decide (x19_2<(l0.length:Int))=false:=decide_eq_false c7;clear c7;have H':=aM H;clear H;go_wp2;go_roundg k2
         case measure=>have:=HK1.out;have:=HK2.out;omega
         case rel=>exact ⟨(wrap64 (x14_1+1)),(by first|rfl|(simp;done)|(simp [*];done)),H',⟨by have:=HK1.out;have:=HK2.out;omega⟩,⟨by repeat (first|(with_reducible first|exact HB.out|apply Qc|apply Qa|apply Qb)|exact HB.out)⟩⟩
     ·rw [if_neg c6] at H;have c6b0:decide (x14_1<(l0.length:Int))=false:=decide_eq_false c6;clear c6;simp only [Option.some.injEq,Prod.mk.injEq] at H;obtain ⟨rfl,rfl⟩:=H;go_wp2
      go_ret2
      exact ⟨by first|rfl|(simp [errW_none,errW_some] <;> rfl)|(simp [*,errW_none,errW_some] <;> rfl),by repeat (first|(with_reducible first|exact HB.out|apply Qc|apply Qa|apply Qb)|exact HB.out)⟩
  ·replace c4:=Bool.eq_false_iff.mpr c4;subst c4;have H1:(some (false,false))=some (r1,r2):=by rw [if_neg (show ¬ (false=true) by decide)] at H;exact H
   clear H;have H:=H1;clear H1;simp only [Option.some.injEq,Prod.mk.injEq] at H;obtain ⟨rfl,rfl⟩:=H;go_enter Try.func83,Try.ntmps83;go_wp2_with (first|((with_reducible refine Qo (f:=155) rfl ?_);refine goesL_ (some 10) rfl rfl Try.func155 (by kernel_rfl) rfl #[.slice A0 l0.length c0,.slice A1 l1.length c1] rfl (by (try simp only [aD,aE,aF]);first|done|rfl|(simp only [aG,aH];rfl)) ?_;(with_reducible refine (impl_areCounts.calls k _ _ l0 _ _ l1 false _ ?side1 ?side2 ?side3 ?side4 A3.out).mono ?_);(case side1=>repeat (first|exact HR0.out|(with_reducible refine Kd.Qr ?_ _)|(with_reducible refine Kd.Qs ?_ _)|(with_reducible refine Kd.C_drew ?_)));(case side2=>exact HC0.out);(case side3=>repeat (first|exact HR1.out|(with_reducible refine Kd.Qr ?_ _)|(with_reducible refine Kd.Qs ?_ _)|(with_reducible refine Kd.C_drew ?_)));(case side4=>exact HC1.out);rintro e w30 ⟨rfl,hb⟩;refine ⟨_,rfl,?_⟩;have n0_:=aM (Qi (by repeat (first|(with_reducible first|exact HB.out|apply Qc|apply Qa|apply Qb)|exact HB.out)) hb);clear HB;have HB:=n0_;clear n0_;(try clear hb);(try clear hb2);(try clear hk);(try clear hi)))
   go_ret2
   exact ⟨by first|rfl|(simp [errW_none,errW_some] <;> rfl)|(simp [*,errW_none,errW_some] <;> rfl),by repeat (first|(with_reducible first|exact HB.out|apply Qc|apply Qa|apply Qb)|exact HB.out)⟩

def spec_l3Sum.l0:Nat→Int→List Int→Int→Int→Option (Int)
  |0,_,_,_,_=>none
  |k+1,x3,x6,x7,x8=>if x8<x7 then (if 0≤x8 then (if x8<(x6.length:Int) then (spec_l3Sum.l0 k (wrap64 (x3+(rd x6 x8))) x6 x7 (wrap64 (x8+1))) else (none)) else (none)) else (some x3)
def spec_l3Sum.f (k:Nat) (l0:List Int):Option (Int):=spec_l3Sum.l0 k 0 l0 (l0.length:Int) 0
set_option maxHeartbeats 8000000 in
set_option maxRecDepth 100000 in
theorem spec_l3Sum.calls (k:Nat) (A0:Option Addr) (c0:Nat) (l0:List Int) (r:Int) (w:World) (hr0:Kd.C (Kd.int .i64) w A0 l0.length l0) (hc0:l0.length≤c0) (h:spec_l3Sum.f k l0=some r) :
    Calls Try.prog 226 #[.slice A0 l0.length c0] w fun e w'=>e= .returned (.int .i64 r)∧Drawn0 w w':=by
  have HR0:=aM hr0;have HC0:=aM hc0;clear hr0 hc0;have H:(spec_l3Sum.l0 k 0 l0 (l0.length:Int) 0)=some r:=h;clear h;have H':=aM H;clear H;go_enter Try.func226,Try.ntmps226;go_wp2;go_loopg [3,8] k (fun kq v3 v8 w'=>∃ (x3_1:Int) (x8_1:Int),v3= .int .i64 x3_1∧v8= .int .i64 x8_1∧Aside0 (spec_l3Sum.l0 kq x3_1 l0 (l0.length:Int) x8_1=some r)∧Aside0 (kq≤k)∧Drawn0 w w')
  case atStart=>exact ⟨(0),(0),(by first|rfl|(simp;done)|(simp [*];done)),(by first|rfl|(simp;done)|(simp [*];done)),H',⟨Nat.le_refl _⟩,by repeat (first|exact Drawn0.refl _|apply Drawn0.step)⟩
  case round=>
   clear H';obtain ⟨x3_1,x8_1,rfl,rfl,HA,HK1,⟨m1,rfl⟩⟩:=hrel
   cases gk with
   |zero=>exact absurd HA.out (by simp [spec_l3Sum.l0])
   |succ k1=>
    have H:=HA.out;clear HA;simp only [spec_l3Sum.l0] at H;by_cases c2:x8_1<(l0.length:Int)
    ·rw [if_pos c2] at H;have c2b0:decide (x8_1<(l0.length:Int))=true:=decide_eq_true c2;clear c2;by_cases c3:0≤x8_1
     ·rw [if_pos c3] at H;have c3b0:decide (0≤x8_1)=true:=decide_eq_true c3;clear c3;by_cases c4:x8_1<(l0.length:Int)
      ·rw [if_pos c4] at H;have c4b0:decide (x8_1<(l0.length:Int))=true:=decide_eq_true c4;clear c4;have H':=aM H;clear H;have p101:0≤(x8_1:Int):=of_decide_eq_true (by first|(with_reducible assumption)|assumption);have q101:x8_1<(l0.length:Int):=of_decide_eq_true (by first|(with_reducible assumption)|assumption);obtain ⟨ad101,e101,hx101_0⟩:=Kd.at_int HR0.out x8_1 p101 q101
       cases e101
       replace p101:=eq_true p101;replace q101:=eq_true q101;go_wp2;go_roundg k1
       case measure=>have:=HK1.out;omega
       case rel=>exact ⟨(wrap64 (x3_1+(rd l0 x8_1))),(wrap64 (x8_1+1)),(by first|rfl|(simp;done)|(simp [*];done)),(by first|rfl|(simp;done)|(simp [*];done)),H',⟨by have:=HK1.out;omega⟩,by repeat (first|exact Drawn0.refl _|apply Drawn0.step)⟩
      ·rw [if_neg c4] at H;exact absurd H (by simp)
     ·rw [if_neg c3] at H;exact absurd H (by simp)
    ·rw [if_neg c2] at H;have c2b0:decide (x8_1<(l0.length:Int))=false:=decide_eq_false c2;clear c2;obtain rfl:=Option.some.inj H;go_wp2
     go_ret
     exact ⟨by first|rfl|(simp;done)|(simp [*];done),by repeat (first|exact Drawn0.refl _|apply Drawn0.step)⟩

def spec_l4Counts.f (k:Nat) (l0:List Int) (l1:List Int):Option (Bool):=(spec_l4Flow.f k l0).bind fun t101=>(if t101=true then (if (l1.length:Int)=(l0.length:Int) then ((spec_l1All.f k l1 1 40).bind fun t102=>(if t102=true then ((spec_l3Sum.f k l1).bind fun t103=>(some (decide (t103≤40)))) else (some false))) else (some false)) else (some false))
set_option maxHeartbeats 8000000 in
set_option maxRecDepth 100000 in
theorem spec_l4Counts.calls (k:Nat) (A0:Option Addr) (c0:Nat) (l0:List Int) (A1:Option Addr) (c1:Nat) (l1:List Int) (r:Bool) (w:World) (hr0:Kd.C (Kd.int .i64) w A0 l0.length l0) (hc0:l0.length≤c0) (hr1:Kd.C (Kd.int .i64) w A1 l1.length l1) (hc1:l1.length≤c1) (h:spec_l4Counts.f k l0 l1=some r) :
    Calls Try.prog 200 #[.slice A0 l0.length c0,.slice A1 l1.length c1] w fun e w'=>e= .returned (.bool r)∧Drawn0 w w':=by
  have HR0:=aM hr0;have HC0:=aM hc0;clear hr0 hc0;have HR1:=aM hr1;have HC1:=aM hc1;clear hr1 hc1;have H:((spec_l4Flow.f k l0).bind fun t101=>(if t101=true then (if (l1.length:Int)=(l0.length:Int) then ((spec_l1All.f k l1 1 40).bind fun t102=>(if t102=true then ((spec_l3Sum.f k l1).bind fun t103=>(some (decide (t103≤40)))) else (some false))) else (some false)) else (some false)))=some r:=h;clear h;replace H:=Option.bind_eq_some_iff.mp H;obtain ⟨t101,A30,H⟩:=H;replace H:(if t101=true then (if (l1.length:Int)=(l0.length:Int) then ((spec_l1All.f k l1 1 40).bind fun t102=>(if t102=true then ((spec_l3Sum.f k l1).bind fun t103=>(some (decide (t103≤40)))) else (some false))) else (some false)) else (some false))=some r:=H;have A3:=aM A30;clear A30;by_cases c4:t101=true
  ·subst c4;have H1:(if (l1.length:Int)=(l0.length:Int) then ((spec_l1All.f k l1 1 40).bind fun t102=>(if t102=true then ((spec_l3Sum.f k l1).bind fun t103=>(some (decide (t103≤40)))) else (some false))) else (some false))=some r:=by rw [if_pos rfl] at H;exact H
   clear H;have H:=H1;clear H1;by_cases c5:(l1.length:Int)=(l0.length:Int)
   ·rw [if_pos c5] at H;have c5b0:((l1.length:Int) == (l0.length:Int))=true:=beq_iff_eq.mpr c5;have c5b1:((l1.length:Int) != (l0.length:Int))=false:=bne_eq_false_iff_eq.mpr c5;have c5b2:(l1.length == l0.length)=true:=by first|simpa using c5|(simp at c5 ⊢;omega)
    clear c5;replace H:=Option.bind_eq_some_iff.mp H;obtain ⟨t102,A60,H⟩:=H;replace H:(if t102=true then ((spec_l3Sum.f k l1).bind fun t103=>(some (decide (t103≤40)))) else (some false))=some r:=H;have A6:=aM A60;clear A60;by_cases c7:t102=true
    ·subst c7;have H1:((spec_l3Sum.f k l1).bind fun t103=>(some (decide (t103≤40))))=some r:=by rw [if_pos rfl] at H;exact H
     clear H;have H:=H1;clear H1;replace H:=Option.bind_eq_some_iff.mp H;obtain ⟨t103,A80,H⟩:=H;replace H:(some (decide (t103≤40)))=some r:=H;have A8:=aM A80;clear A80;obtain rfl:=Option.some.inj H;go_enter Try.func200,Try.ntmps200;go_wp2_with (first|((with_reducible refine Qo (f:=190) rfl ?_);refine goesL_ (some 6) rfl rfl Try.func190 (by kernel_rfl) rfl #[.slice A0 l0.length c0] rfl (by (try simp only [aD,aE,aF]);first|done|rfl|(simp only [aG,aH];rfl)) ?_;(with_reducible refine (spec_l4Flow.calls k _ _ l0 true _ ?side1 ?side2 A3.out).mono ?_);(case side1=>repeat (first|exact HR0.out|(with_reducible refine Kd.Qr ?_ _)|(with_reducible refine Kd.Qs ?_ _)|(with_reducible refine Kd.C_drew ?_)));(case side2=>exact HC0.out);rintro e w' ⟨rfl,⟨nd,rfl⟩⟩;refine ⟨_,rfl,?_⟩)|(go_at_call 142;(with_reducible refine (spec_l1All.calls k _ _ l1 1 40 true _ ?side1 ?side2 A6.out).mono ?_);(case side1=>repeat (first|exact HR1.out|(with_reducible refine Kd.Qr ?_ _)|(with_reducible refine Kd.Qs ?_ _)|(with_reducible refine Kd.C_drew ?_)));(case side2=>exact HC1.out);rintro e w' ⟨rfl,⟨nd,rfl⟩⟩)|(go_at_call 226;(with_reducible refine (spec_l3Sum.calls k _ _ l1 t103 _ ?side1 ?side2 A8.out).mono ?_);(case side1=>repeat (first|exact HR1.out|(with_reducible refine Kd.Qr ?_ _)|(with_reducible refine Kd.Qs ?_ _)|(with_reducible refine Kd.C_drew ?_)));(case side2=>exact HC1.out);rintro e w' ⟨rfl,⟨nd,rfl⟩⟩))
     go_ret
     exact ⟨by first|rfl|(simp;done)|(simp [*];done),by repeat (first|exact Drawn0.refl _|apply Drawn0.step)⟩
    ·replace c7:=Bool.eq_false_iff.mpr c7;subst c7;have H1:(some false)=some r:=by rw [if_neg (show ¬ (false=true) by decide)] at H;exact H
     clear H;have H:=H1;clear H1;obtain rfl:=Option.some.inj H;go_enter Try.func200,Try.ntmps200;go_wp2_with (first|((with_reducible refine Qo (f:=190) rfl ?_);refine goesL_ (some 6) rfl rfl Try.func190 (by kernel_rfl) rfl #[.slice A0 l0.length c0] rfl (by (try simp only [aD,aE,aF]);first|done|rfl|(simp only [aG,aH];rfl)) ?_;(with_reducible refine (spec_l4Flow.calls k _ _ l0 true _ ?side1 ?side2 A3.out).mono ?_);(case side1=>repeat (first|exact HR0.out|(with_reducible refine Kd.Qr ?_ _)|(with_reducible refine Kd.Qs ?_ _)|(with_reducible refine Kd.C_drew ?_)));(case side2=>exact HC0.out);rintro e w' ⟨rfl,⟨nd,rfl⟩⟩;refine ⟨_,rfl,?_⟩)|(go_at_call 142;(with_reducible refine (spec_l1All.calls k _ _ l1 1 40 false _ ?side1 ?side2 A6.out).mono ?_);(case side1=>repeat (first|exact HR1.out|(with_reducible refine Kd.Qr ?_ _)|(with_reducible refine Kd.Qs ?_ _)|(with_reducible refine Kd.C_drew ?_)));(case side2=>exact HC1.out);rintro e w' ⟨rfl,⟨nd,rfl⟩⟩))
     go_ret
     exact ⟨by first|rfl|(simp;done)|(simp [*];done),by repeat (first|exact Drawn0.refl _|apply Drawn0.step)⟩
   ·rw [if_neg c5] at H;have c5b0:((l1.length:Int) == (l0.length:Int))=false:=beq_eq_false_iff_ne.mpr c5;have c5b1:((l1.length:Int) != (l0.length:Int))=true:=bne_iff_ne.mpr c5;have c5b2:(l1.length == l0.length)=false:=by first|simpa using c5|(simp at c5 ⊢;omega)
    obtain rfl:=Option.some.inj H;go_enter Try.func200,Try.ntmps200;go_wp2_with (first|((with_reducible refine Qo (f:=190) rfl ?_);refine goesL_ (some 6) rfl rfl Try.func190 (by kernel_rfl) rfl #[.slice A0 l0.length c0] rfl (by (try simp only [aD,aE,aF]);first|done|rfl|(simp only [aG,aH];rfl)) ?_;(with_reducible refine (spec_l4Flow.calls k _ _ l0 true _ ?side1 ?side2 A3.out).mono ?_);(case side1=>repeat (first|exact HR0.out|(with_reducible refine Kd.Qr ?_ _)|(with_reducible refine Kd.Qs ?_ _)|(with_reducible refine Kd.C_drew ?_)));(case side2=>exact HC0.out);rintro e w' ⟨rfl,⟨nd,rfl⟩⟩;refine ⟨_,rfl,?_⟩))
    go_ret
    exact ⟨by first|rfl|(simp;done)|(simp [*];done),by repeat (first|exact Drawn0.refl _|apply Drawn0.step)⟩
  ·replace c4:=Bool.eq_false_iff.mpr c4;subst c4;have H1:(some false)=some r:=by rw [if_neg (show ¬ (false=true) by decide)] at H;exact H
   clear H;have H:=H1;clear H1;obtain rfl:=Option.some.inj H;go_enter Try.func200,Try.ntmps200;go_wp2_with (first|((with_reducible refine Qo (f:=190) rfl ?_);refine goesL_ (some 6) rfl rfl Try.func190 (by kernel_rfl) rfl #[.slice A0 l0.length c0] rfl (by (try simp only [aD,aE,aF]);first|done|rfl|(simp only [aG,aH];rfl)) ?_;(with_reducible refine (spec_l4Flow.calls k _ _ l0 false _ ?side1 ?side2 A3.out).mono ?_);(case side1=>repeat (first|exact HR0.out|(with_reducible refine Kd.Qr ?_ _)|(with_reducible refine Kd.Qs ?_ _)|(with_reducible refine Kd.C_drew ?_)));(case side2=>exact HC0.out);rintro e w' ⟨rfl,⟨nd,rfl⟩⟩;refine ⟨_,rfl,?_⟩))
   go_ret
   exact ⟨by first|rfl|(simp;done)|(simp [*];done),by repeat (first|exact Drawn0.refl _|apply Drawn0.step)⟩

mutual
def spec_IsStable.l0:Nat→List Int→List Int→Int→Int→Option (Bool×Bool)
  |0,_,_,_,_=>none
  |k+1,x0,x1,x14,x15=>if x15<x14 then (if 0≤x15 then (if x15<(x1.length:Int) then (if (rd x1 x15)=1 then (spec_IsStable.l0 k x0 x1 x14 (wrap64 (x15+1))) else (if x15<(x0.length:Int) then ((spec_l1Make.f k (rd x0 x15) (wrap64 ((rd x1 x15) * (wrap64 ((rd x1 x15) - 1))))).bind fun bt106=>(spec_IsStable.l1 k x0 x1 x15 x14 x15 (x0.length:Int) 0 bt106.1 bt106.2)) else (none))) else (none)) else (none)) else (some (true,true))
def spec_IsStable.l1:Nat→List Int→List Int→Int→Int→Int→Int→Int→Int→Int→Option (Bool×Bool)
  |0,_,_,_,_,_,_,_,_,_=>none
  |k+1,x0,x1,x6,x14,x15,x39,x40,x109000,x109001=>if x40<x39 then (if x40=x6 then (spec_IsStable.l1 k x0 x1 x6 x14 x15 x39 (wrap64 (x40+1)) x109000 x109001) else ((spec_l4Gain.f k x0 x1 x40).bind fun bt109=>((spec_l1Less.f x109000 x109001 bt109.1 bt109.2).bind fun t111=>(if t111=true then (some (false,true)) else (spec_IsStable.l1 k x0 x1 x6 x14 x15 x39 (wrap64 (x40+1)) x109000 x109001))))) else (spec_IsStable.l0 k x0 x1 x14 (wrap64 (x15+1)))
end
def spec_IsStable.f (k:Nat) (l0:List Int) (l1:List Int):Option (Bool×Bool):=(spec_l4Counts.f k l0 l1).bind fun t101=>(if t101=true then (spec_IsStable.l0 k l0 l1 (l0.length:Int) 0) else (some (false,false)))
def spec_IsStable.T7:Bool×List (List Nat×List Nat):=(true,[([],[]),([],[]),([0,1],[0,1]),([2],[2]),([],[]),([],[]),([4,5],[4,5]),([6],[6]),([],[]),([],[]),([8,9],[8,9]),([10],[10]),([11],[11]),([7,12],[7,12]),([3,13],[3,13]),([],[]),([15,14,14,0,1,2,3,4,5,6,7,8,9,10,11,12,13,14,15],[14,15])])
def spec_IsStable.B7:List Nat:=[0,0,3,7,0,0,48,112,0,0,768,1792,3840,8176,16383,0,65535]
theorem spec_IsStable.tab7:rtab .any (opsOf Try.f84 7)=spec_IsStable.T7:=by kernel_rfl
theorem spec_IsStable.bits7:waitsOk spec_IsStable.T7.2 spec_IsStable.B7=true:=by kernel_rfl
def spec_IsStable.T11:Bool×List (List Nat×List Nat):=(true,[([],[]),([],[]),([0,1],[0,1]),([2],[2]),([3],[3]),([3],[3]),([3],[3]),([3],[3]),([5,6,7,3,3],[3,5,6,7]),([4,8,8,3],[3,4,8]),([3,9],[3,9])])
def spec_IsStable.B11:List Nat:=[0,0,3,7,15,15,15,15,239,511,1023]
theorem spec_IsStable.tab11:rtab .any (opsOf Try.f84 11)=spec_IsStable.T11:=by kernel_rfl
theorem spec_IsStable.bits11:waitsOk spec_IsStable.T11.2 spec_IsStable.B11=true:=by kernel_rfl
set_option maxHeartbeats 8000000 in
set_option maxRecDepth 100000 in
theorem spec_IsStable.calls (k:Nat) (A0:Option Addr) (c0:Nat) (l0:List Int) (A1:Option Addr) (c1:Nat) (l1:List Int) (r1:Bool) (r2:Bool) (w:World) (hr0:Kd.C (Kd.int .i64) w A0 l0.length l0) (hc0:l0.length≤c0) (hr1:Kd.C (Kd.int .i64) w A1 l1.length l1) (hc1:l1.length≤c1) (h:spec_IsStable.f k l0 l1=some (r1,r2)) :
    Calls Try.prog 84 #[.slice A0 l0.length c0,.slice A1 l1.length c1] w fun e w'=>e= .returned (.tuple #[.bool r1,.bool r2])∧Below w.heap.size w w':=by
  have hu61:=Try.underlying61;have HR0:=aM hr0;have HC0:=aM hc0;clear hr0 hc0;have HR1:=aM hr1;have HC1:=aM hc1;clear hr1 hc1;have HB:=aM (Below.refl w.heap.size w);have H:((spec_l4Counts.f k l0 l1).bind fun t101=>(if t101=true then (spec_IsStable.l0 k l0 l1 (l0.length:Int) 0) else (some (false,false))))=some (r1,r2):=h;clear h;replace H:=Option.bind_eq_some_iff.mp H;obtain ⟨t101,A30,H⟩:=H;replace H:(if t101=true then (spec_IsStable.l0 k l0 l1 (l0.length:Int) 0) else (some (false,false)))=some (r1,r2):=H;have A3:=aM A30;clear A30;by_cases c4:t101=true
  ·subst c4;have H1:(spec_IsStable.l0 k l0 l1 (l0.length:Int) 0)=some (r1,r2):=by rw [if_pos rfl] at H;exact H
   clear H;have H:=H1;clear H1;have H':=aM H;clear H;go_enter Try.func84,Try.ntmps84;go_wp2_with (first|((with_reducible refine Qo (f:=200) rfl ?_);refine goesL_ (some 11) rfl rfl Try.func200 (by kernel_rfl) rfl #[.slice A0 l0.length c0,.slice A1 l1.length c1] rfl (by (try simp only [aD,aE,aF]);first|done|rfl|(simp only [aG,aH];rfl)) ?_;(with_reducible refine (spec_l4Counts.calls k _ _ l0 _ _ l1 true _ ?side1 ?side2 ?side3 ?side4 A3.out).mono ?_);(case side1=>repeat (first|exact HR0.out|(with_reducible refine Kd.Qr ?_ _)|(with_reducible refine Kd.Qs ?_ _)|(with_reducible refine Kd.C_drew ?_)));(case side2=>exact HC0.out);(case side3=>repeat (first|exact HR1.out|(with_reducible refine Kd.Qr ?_ _)|(with_reducible refine Kd.Qs ?_ _)|(with_reducible refine Kd.C_drew ?_)));(case side4=>exact HC1.out);rintro e w' ⟨rfl,⟨nd,rfl⟩⟩;refine ⟨_,rfl,?_⟩))
   go_loopg [15] k (fun kq v15 w'=>∃ (x15_1:Int),v15= .int .i64 x15_1∧Aside0 (spec_IsStable.l0 kq l0 l1 (l0.length:Int) x15_1=some (r1,r2))∧Aside0 (kq≤k)∧Aside0 (Below w.heap.size w w'))
   case atStart=>exact ⟨(0),(by first|rfl|(simp;done)|(simp [*];done)),H',⟨Nat.le_refl _⟩,⟨by repeat (first|(with_reducible first|exact HB.out|apply Qc|apply Qa|apply Qb)|exact HB.out)⟩⟩
   case round=>
    clear H';(try clear c1);(try clear c2);(try clear p2);(try clear c4);obtain ⟨x15_1,rfl,HA,HK1,HB⟩:=hrel
    cases gk with
    |zero=>exact absurd HA.out (by simp [spec_IsStable.l0])
    |succ k1=>
     have H:=HA.out;clear HA;simp only [spec_IsStable.l0] at H;by_cases c5:x15_1<(l0.length:Int)
     ·rw [if_pos c5] at H;have c5b0:decide (x15_1<(l0.length:Int))=true:=decide_eq_true c5;clear c5;by_cases c6:0≤x15_1
      ·rw [if_pos c6] at H;have c6b0:decide (0≤x15_1)=true:=decide_eq_true c6;clear c6;by_cases c7:x15_1<(l1.length:Int)
       ·rw [if_pos c7] at H;have c7b0:decide (x15_1<(l1.length:Int))=true:=decide_eq_true c7;clear c7;by_cases c8:(rd l1 x15_1)=1
        ·rw [if_pos c8] at H;have c8b0:((rd l1 x15_1) == 1)=true:=beq_iff_eq.mpr c8;have c8b1:((rd l1 x15_1) != 1)=false:=bne_eq_false_iff_eq.mpr c8;clear c8;have H':=aM H;clear H;have p102:0≤(x15_1:Int):=of_decide_eq_true (by first|(with_reducible assumption)|assumption);have q102:x15_1<(l1.length:Int):=of_decide_eq_true (by first|(with_reducible assumption)|assumption);obtain ⟨ad102,e102,hx102_0⟩:=Kd.at_int HR1.out x15_1 p102 q102
         cases e102
         replace hx102_0:=(HB.out.cell (aI w _ hx102_0)).trans hx102_0;replace p102:=eq_true p102;replace q102:=eq_true q102;go_wp2;go_roundg k1
         case measure=>have:=HK1.out;omega
         case rel=>exact ⟨(wrap64 (x15_1+1)),(by first|rfl|(simp;done)|(simp [*];done)),H',⟨by have:=HK1.out;omega⟩,⟨by repeat (first|(with_reducible first|exact HB.out|apply Qc|apply Qa|apply Qb)|exact HB.out)⟩⟩
        ·rw [if_neg c8] at H;have c8b0:((rd l1 x15_1) == 1)=false:=beq_eq_false_iff_ne.mpr c8;have c8b1:((rd l1 x15_1) != 1)=true:=bne_iff_ne.mpr c8;by_cases c9:x15_1<(l0.length:Int)
         ·rw [if_pos c9] at H;have c9b0:decide (x15_1<(l0.length:Int))=true:=decide_eq_true c9;clear c9;replace H:=Option.bind_eq_some_iff.mp H;obtain ⟨⟨t106,t107⟩,A100,H⟩:=H;replace H:(spec_IsStable.l1 k1 l0 l1 x15_1 (l0.length:Int) x15_1 (l0.length:Int) 0 t106 t107)=some (r1,r2):=H;have A10:=aM A100;clear A100;have H':=aM H;clear H;have p102:0≤(x15_1:Int):=of_decide_eq_true (by first|(with_reducible assumption)|assumption);have q102:x15_1<(l1.length:Int):=of_decide_eq_true (by first|(with_reducible assumption)|assumption);obtain ⟨ad102,e102,hx102_0⟩:=Kd.at_int HR1.out x15_1 p102 q102
          cases e102
          replace hx102_0:=(HB.out.cell (aI w _ hx102_0)).trans hx102_0;replace p102:=eq_true p102;replace q102:=eq_true q102
          try go_wp2
          have n0_:=aM (Qb HB.out);clear HB;have HB:=n0_;clear n0_;have p103:0≤(x15_1:Int):=of_decide_eq_true (by first|(with_reducible assumption)|assumption);have q103:x15_1<(l0.length:Int):=of_decide_eq_true (by first|(with_reducible assumption)|assumption);obtain ⟨ad103,e103,hx103_0⟩:=Kd.at_int HR0.out x15_1 p103 q103;have hw103_0:=hx103_0
          cases e103
          replace hx103_0:=(HB.out.cell (aI w _ hx103_0)).trans hx103_0;replace p103:=eq_true p103;replace q103:=eq_true q103;have p104:0≤(x15_1:Int):=of_decide_eq_true (by first|(with_reducible assumption)|assumption);have q104:x15_1<(l1.length:Int):=of_decide_eq_true (by first|(with_reducible assumption)|assumption);obtain ⟨ad104,e104,hx104_0⟩:=Kd.at_int HR1.out x15_1 p104 q104;have hw104_0:=hx104_0;obtain rfl:ad102=ad104:=(by injection e104);replace hx104_0:=(HB.out.cell (aI w _ hx104_0)).trans hx104_0;replace p104:=eq_true p104;replace q104:=eq_true q104;have p105:0≤(x15_1:Int):=of_decide_eq_true (by first|(with_reducible assumption)|assumption);have q105:x15_1<(l1.length:Int):=of_decide_eq_true (by first|(with_reducible assumption)|assumption);obtain ⟨ad105,e105,hx105_0⟩:=Kd.at_int HR1.out x15_1 p105 q105;have hw105_0:=hx105_0;obtain rfl:ad102=ad105:=(by injection e105);replace hx105_0:=(HB.out.cell (aI w _ hx105_0)).trans hx105_0;replace p105:=eq_true p105;replace q105:=eq_true q105;refine start_ (n:=17) (S:=fun w'=>w'.cell? (ad103.add (x15_1).toNat)=some (.int .i64 (rd l0 x15_1))∧w'.cell? (ad102.add (x15_1).toNat)=some (.int .i64 (rd l1 x15_1))∧w'.cell? (ad102.add (x15_1).toNat)=some (.int .i64 (rd l1 x15_1))) (ds:=[]) #[false,false,false,false,false,false,false,false,false,false,false,false,false,false,false,false,false] (by kernel_rfl) rfl rfl ⟨((HB.out.cell (aI w _ hw103_0)).trans hw103_0),((HB.out.cell (aI w _ hw104_0)).trans hw104_0),((HB.out.cell (aI w _ hw105_0)).trans hw105_0)⟩ (fun hHeld=>?_);refine with_tabW spec_IsStable.tab7 spec_IsStable.bits7 (fun HT_ HW_=>?_)
          generalize wr.drew=w11 at HB hx103_0 hx104_0 hx105_0 hHeld ⊢
          refine pure_ (i:=0) (N:=some 23) (v:=?_) (a':=?_) #[true,false,false,false,false,false,false,false,false,false,false,false,false,false,false,false,false] rfl rfl (any_of HT_.out (by kernel_rfl)) (fun _ _ _ h=>h) (Or.inl ⟨by rfl,?_⟩) ?_ ?_
          rotate_left
          ·intro w'
           go_simp
           with_reducible rfl
          rotate_left
          ·simp only [Act.put,aA,aB,aC,i64_w,i32_w]
           rfl
          refine pure_ (i:=1) (N:=some 24) (v:=?_) (a':=?_) #[true,true,false,false,false,false,false,false,false,false,false,false,false,false,false,false,false] rfl rfl (any_of HT_.out (by kernel_rfl)) (fun _ _ _ h=>h) (Or.inl ⟨by rfl,?_⟩) ?_ ?_
          rotate_left
          ·intro w'
           go_simp
           with_reducible rfl
          rotate_left
          ·simp only [Act.put,aA,aB,aC,i64_w,i32_w]
           rfl
          refine pure_ (i:=2) (N:=some 25) (v:=?_) (a':=?_) #[true,true,true,false,false,false,false,false,false,false,false,false,false,false,false,false,false] rfl rfl (any_of HT_.out (by kernel_rfl)) (fun _ _ _ h=>h) (Or.inl ⟨by rfl,?_⟩) ?_ ?_
          rotate_left
          ·intro w'
           go_simp
           with_reducible rfl
          rotate_left
          ·simp only [Act.put,aA,aB,aC,i64_w,i32_w]
           rfl
          refine pure_ (i:=4) (N:=some 27) (v:=?_) (a':=?_) #[true,true,true,false,true,false,false,false,false,false,false,false,false,false,false,false,false] rfl rfl (any_of HT_.out (by kernel_rfl)) (fun _ _ _ h=>h) (Or.inl ⟨by rfl,?_⟩) ?_ ?_
          rotate_left
          ·intro w'
           go_simp
           with_reducible rfl
          rotate_left
          ·simp only [Act.put,aA,aB,aC,i64_w,i32_w]
           rfl
          refine pure_ (i:=5) (N:=some 28) (v:=?_) (a':=?_) #[true,true,true,false,true,true,false,false,false,false,false,false,false,false,false,false,false] rfl rfl (any_of HT_.out (by kernel_rfl)) (fun _ _ _ h=>h) (Or.inl ⟨by rfl,?_⟩) ?_ ?_
          rotate_left
          ·intro w'
           go_simp
           with_reducible rfl
          rotate_left
          ·simp only [Act.put,aA,aB,aC,i64_w,i32_w]
           rfl
          refine pure_ (i:=6) (N:=some 29) (v:=?_) (a':=?_) #[true,true,true,false,true,true,true,false,false,false,false,false,false,false,false,false,false] rfl rfl (any_of HT_.out (by kernel_rfl)) (fun _ _ _ h=>h) (Or.inl ⟨by rfl,?_⟩) ?_ ?_
          rotate_left
          ·intro w'
           go_simp
           with_reducible rfl
          rotate_left
          ·simp only [Act.put,aA,aB,aC,i64_w,i32_w]
           rfl
          refine pure_ (i:=8) (N:=some 31) (v:=?_) (a':=?_) #[true,true,true,false,true,true,true,false,true,false,false,false,false,false,false,false,false] rfl rfl (any_of HT_.out (by kernel_rfl)) (fun _ _ _ h=>h) (Or.inl ⟨by rfl,?_⟩) ?_ ?_
          rotate_left
          ·intro w'
           go_simp
           with_reducible rfl
          rotate_left
          ·simp only [Act.put,aA,aB,aC,i64_w,i32_w]
           rfl
          refine pure_ (i:=9) (N:=some 32) (v:=?_) (a':=?_) #[true,true,true,false,true,true,true,false,true,true,false,false,false,false,false,false,false] rfl rfl (any_of HT_.out (by kernel_rfl)) (fun _ _ _ h=>h) (Or.inl ⟨by rfl,?_⟩) ?_ ?_
          rotate_left
          ·intro w'
           go_simp
           with_reducible rfl
          rotate_left
          ·simp only [Act.put,aA,aB,aC,i64_w,i32_w]
           rfl
          refine pure_ (i:=10) (N:=some 33) (v:=?_) (a':=?_) #[true,true,true,false,true,true,true,false,true,true,true,false,false,false,false,false,false] rfl rfl (any_of HT_.out (by kernel_rfl)) (fun _ _ _ h=>h) (Or.inl ⟨by rfl,?_⟩) ?_ ?_
          rotate_left
          ·intro w'
           go_simp
           with_reducible rfl
          rotate_left
          ·simp only [Act.put,aA,aB,aC,i64_w,i32_w]
           rfl
          refine take_ (i:=3) (N:=some 26) (v:=?_) (a':=?_) #[true,true,true,true,true,true,true,false,true,true,true,false,false,false,false,false,false] rfl rfl (take_ofW HT_.out HW_.out (by kernel_rfl)) (fun _ _ _ h=>h) (Or.inl ⟨by rfl,?_⟩) hHeld ?_ ?_
          rotate_left
          ·rintro w' ⟨s0,s1,s2⟩
           go_simp
           with_reducible rfl
          rotate_left
          ·simp only [Act.put,aA,aB,aC,i64_w,i32_w]
           rfl
          refine take_ (i:=7) (N:=some 30) (v:=?_) (a':=?_) #[true,true,true,true,true,true,true,true,true,true,true,false,false,false,false,false,false] rfl rfl (take_ofW HT_.out HW_.out (by kernel_rfl)) (fun _ _ _ h=>h) (Or.inl ⟨by rfl,?_⟩) hHeld ?_ ?_
          rotate_left
          ·rintro w' ⟨s0,s1,s2⟩
           go_simp
           with_reducible rfl
          rotate_left
          ·simp only [Act.put,aA,aB,aC,i64_w,i32_w]
           rfl
          refine take_ (i:=11) (N:=some 34) (v:=?_) (a':=?_) #[true,true,true,true,true,true,true,true,true,true,true,true,false,false,false,false,false] rfl rfl (take_ofW HT_.out HW_.out (by kernel_rfl)) (fun _ _ _ h=>h) (Or.inl ⟨by rfl,?_⟩) hHeld ?_ ?_
          rotate_left
          ·rintro w' ⟨s0,s1,s2⟩
           go_simp
           with_reducible rfl
          rotate_left
          ·simp only [Act.put,aA,aB,aC,i64_w,i32_w]
           rfl
          refine pure_ (i:=12) (N:=some 35) (v:=?_) (a':=?_) #[true,true,true,true,true,true,true,true,true,true,true,true,true,false,false,false,false] rfl rfl (any_of HT_.out (by kernel_rfl)) (fun _ _ _ h=>h) (Or.inl ⟨by rfl,?_⟩) ?_ ?_
          rotate_left
          ·intro w'
           go_simp
           with_reducible rfl
          rotate_left
          ·simp only [Act.put,aA,aB,aC,i64_w,i32_w]
           rfl
          refine pure_ (i:=13) (N:=some 36) (v:=?_) (a':=?_) #[true,true,true,true,true,true,true,true,true,true,true,true,true,true,false,false,false] rfl rfl (any_of HT_.out (by kernel_rfl)) (fun _ _ _ h=>h) (Or.inl ⟨by rfl,?_⟩) ?_ ?_
          rotate_left
          ·intro w'
           go_simp
           with_reducible rfl
          rotate_left
          ·simp only [Act.put,aA,aB,aC,i64_w,i32_w]
           rfl
          refine join_ (σ:=Nat) 1 #[true,true,true,true,true,true,true,true,true,true,true,true,true,true,true,true,false] (fun s_=>[(37,.agg #[.int .i64 t106,.int .i64 t107]),(7,.pointer (some ⟨s_,0,none⟩))]) (fun s_ w'=>(w'.cell? (ad103.add (x15_1).toNat)=some (.int .i64 (rd l0 x15_1))∧w'.cell? (ad102.add (x15_1).toNat)=some (.int .i64 (rd l1 x15_1))∧w'.cell? (ad102.add (x15_1).toNat)=some (.int .i64 (rd l1 x15_1)))∧(w'.heap[s_]? = some (.cells #[.int .i64 0,.int .i64 0] 61 (0,0)))∧(w.heap.size≤s_)∧(w.heap.size≤s_)∧(Below w.heap.size w w')) ?_ ?_
          rotate_left
          ·intro hCont;refine two_ (i:=14) (j:=15) (Ni:=some 37) (Nj:=some 7) #[true,true,true,true,true,true,true,true,true,true,true,true,true,true,true,false,false] #[true,true,true,true,true,true,true,true,true,true,true,true,true,true,false,true,false] rfl rfl rfl rfl (two_of HT_.out (by kernel_rfl)) (by decide) (by decide) (fun K hK=>?_) (fun K hK=>?_)
           ·skip
            first|(refine goes_ Try.func191 (by kernel_rfl) rfl #[.int .i64 (rd l0 x15_1),.int .i64 (wrap64 ((rd l1 x15_1) * (wrap64 ((rd l1 x15_1) - 1))))] (by rfl) rfl rfl (by (try simp only [aD,aE,aF]);first|done|rfl|(simp only [aG,aH];rfl)) ?_)|(refine call_ 191 #[.int .i64 (rd l0 x15_1),.int .i64 (wrap64 ((rd l1 x15_1) * (wrap64 ((rd l1 x15_1) - 1))))] (by rfl) rfl (by unfold execOp;simp [resolve,Deferred.ofValue,invoke,Act.eval,enters_ Try.func191 (by kernel_rfl) rfl]) ?_)
            with_reducible refine (spec_l1Make.calls k1 (rd l0 x15_1) (wrap64 ((rd l1 x15_1) * (wrap64 ((rd l1 x15_1) - 1)))) t106 t107 _ A10.out).mono ?_
            rintro e w12 ⟨rfl,hb⟩
            refine ⟨_,rfl,?_⟩;have n0_:=aM (Qi (by repeat (first|(with_reducible first|exact HB.out|apply Qc|apply Qa|apply Qb)|exact HB.out)) hb);clear HB;have HB:=n0_;clear n0_;(try clear hb);(try clear hb2);(try clear hk);(try clear hi);refine hK.out _ _ ⟨((HB.out.cell (aI w _ hw103_0)).trans hw103_0),((HB.out.cell (aI w _ hw104_0)).trans hw104_0),((HB.out.cell (aI w _ hw105_0)).trans hw105_0)⟩ (fun hHeld=>?_);clear hK K;refine norm_ (a':=?_) ?_ ?_
            rotate_left
            ·show Act.put _ (some 37) _=_
             simp only [Act.put,aA,aB,aC,i64_w,i32_w]
             rfl
            refine one_ (i:=15) (N:=some 7) #[true,true,true,true,true,true,true,true,true,true,true,true,true,true,true,true,false] rfl rfl (one_of HT_.out (by kernel_rfl)) (by decide) (fun K hK=>?_);refine box_step ?hg (N:=7) ?hd (cs:=#[.int .i64 0,.int .i64 0]) (t:=61) ?hr ?_;(case hd=>rfl);(case hg=>rfl);(case hr=>first|(go_simp;done)|(go_simp;rfl));intro gb108 hg w13 hbox hb;have n0_:=aM (Qi (by repeat (first|(with_reducible first|exact HB.out|apply Qc|apply Qa|apply Qb)|exact HB.out)) hb);have n1_:=aM (hbox);have n2_:=aM ((by rw [hg];exact (Qj (by repeat (first|(with_reducible first|exact HB.out|apply Qc|apply Qa|apply Qb)|exact HB.out))):w.heap.size≤gb108));have n3_:=aM ((by rw [hg];exact (Qj (by repeat (first|(with_reducible first|exact HB.out|apply Qc|apply Qa|apply Qb)|exact HB.out))):w.heap.size≤gb108));clear HB;have HB:=n0_;have BK108:=n1_;have GW108:=n2_;have GE108:=n3_;clear n0_ n1_ n2_ n3_;clear hb hbox hg;refine hK.out _ _ ⟨((HB.out.cell (aI w _ hw103_0)).trans hw103_0),((HB.out.cell (aI w _ hw104_0)).trans hw104_0),((HB.out.cell (aI w _ hw105_0)).trans hw105_0)⟩ (fun hHeld=>?_);clear hK K;refine norm_ (a':=?_) ?_ ?_
            rotate_left
            ·show Act.put _ (some 7) _=_
             simp only [Act.put,aA,aB,aC,i64_w,i32_w]
             rfl
            exact norm_ (by simp only [putAll,Act.put,aA,aB,aC]) (hCont (gb108) _ ⟨hHeld,(by (with_reducible repeat (first|apply Qe|apply Qg|apply Qd));exact BK108.out),GW108.out,GE108.out,(by repeat (first|(with_reducible first|exact HB.out|apply Qc|apply Qa|apply Qb|refine Qf ?_ GE108.out)|exact HB.out))⟩)
           ·skip
            refine box_step ?hg (N:=7) ?hd (cs:=#[.int .i64 0,.int .i64 0]) (t:=61) ?hr ?_;(case hd=>rfl);(case hg=>rfl);(case hr=>first|(go_simp;done)|(go_simp;rfl));intro gb108 hg w12 hbox hb;have n0_:=aM (Qi (by repeat (first|(with_reducible first|exact HB.out|apply Qc|apply Qa|apply Qb)|exact HB.out)) hb);have n1_:=aM (hbox);have n2_:=aM ((by rw [hg];exact (Qj (by repeat (first|(with_reducible first|exact HB.out|apply Qc|apply Qa|apply Qb)|exact HB.out))):w.heap.size≤gb108));have n3_:=aM ((by rw [hg];exact (Qj (by repeat (first|(with_reducible first|exact HB.out|apply Qc|apply Qa|apply Qb)|exact HB.out))):w.heap.size≤gb108));clear HB;have HB:=n0_;have BK108:=n1_;have GW108:=n2_;have GE108:=n3_;clear n0_ n1_ n2_ n3_;clear hb hbox hg;refine hK.out _ _ ⟨((HB.out.cell (aI w _ hw103_0)).trans hw103_0),((HB.out.cell (aI w _ hw104_0)).trans hw104_0),((HB.out.cell (aI w _ hw105_0)).trans hw105_0)⟩ (fun hHeld=>?_);clear hK K;refine norm_ (a':=?_) ?_ ?_
            rotate_left
            ·show Act.put _ (some 7) _=_
             simp only [Act.put,aA,aB,aC,i64_w,i32_w]
             rfl
            refine one_ (i:=14) (N:=some 37) #[true,true,true,true,true,true,true,true,true,true,true,true,true,true,true,true,false] rfl rfl (one_of HT_.out (by kernel_rfl)) (by decide) (fun K hK=>?_)
            first|(refine goes_ Try.func191 (by kernel_rfl) rfl #[.int .i64 (rd l0 x15_1),.int .i64 (wrap64 ((rd l1 x15_1) * (wrap64 ((rd l1 x15_1) - 1))))] (by rfl) rfl rfl (by (try simp only [aD,aE,aF]);first|done|rfl|(simp only [aG,aH];rfl)) ?_)|(refine call_ 191 #[.int .i64 (rd l0 x15_1),.int .i64 (wrap64 ((rd l1 x15_1) * (wrap64 ((rd l1 x15_1) - 1))))] (by rfl) rfl (by unfold execOp;simp [resolve,Deferred.ofValue,invoke,Act.eval,enters_ Try.func191 (by kernel_rfl) rfl]) ?_)
            with_reducible refine (spec_l1Make.calls k1 (rd l0 x15_1) (wrap64 ((rd l1 x15_1) * (wrap64 ((rd l1 x15_1) - 1)))) t106 t107 _ A10.out).mono ?_
            rintro e w13 ⟨rfl,hb⟩
            refine ⟨_,rfl,?_⟩;have n0_:=aM (Qn (g:=gb108) (o:= .cells #[.int .i64 0,.int .i64 0] 61 (0,0)) (by (with_reducible repeat (first|apply Qe|apply Qg|apply Qd));exact BK108.out) hb);have n1_:=aM (Qi (by repeat (first|(with_reducible first|exact HB.out|apply Qc|apply Qa|apply Qb|refine Qf ?_ GE108.out)|exact HB.out)) hb);clear BK108;clear HB;have BK108:=n0_;have HB:=n1_;clear n0_ n1_;(try clear hb);(try clear hb2);(try clear hk);(try clear hi);refine hK.out _ _ ⟨((HB.out.cell (aI w _ hw103_0)).trans hw103_0),((HB.out.cell (aI w _ hw104_0)).trans hw104_0),((HB.out.cell (aI w _ hw105_0)).trans hw105_0)⟩ (fun hHeld=>?_);clear hK K;refine norm_ (a':=?_) ?_ ?_
            rotate_left
            ·show Act.put _ (some 37) _=_
             simp only [Act.put,aA,aB,aC,i64_w,i32_w]
             rfl
            exact norm_ (by simp only [putAll,Act.put,aA,aB,aC]) (hCont (gb108) _ ⟨hHeld,(by (with_reducible repeat (first|apply Qe|apply Qg|apply Qd));exact BK108.out),GW108.out,GE108.out,(by repeat (first|(with_reducible first|exact HB.out|apply Qc|apply Qa|apply Qb|refine Qf ?_ GE108.out)|exact HB.out))⟩)
          rintro gb108 w14 ⟨hS_,h0_,h1_,h2_,h3_⟩
          have n0_:Aside0 (w14.heap[gb108]? = some (.cells #[.int .i64 0,.int .i64 0] 61 (0,0))):=⟨h0_⟩;have n1_:Aside0 (w.heap.size≤gb108):=⟨h1_⟩;have n2_:Aside0 (w.heap.size≤gb108):=⟨h2_⟩;have n3_:Aside0 (Below w.heap.size w w14):=⟨h3_⟩;clear HB;clear h0_ h1_ h2_ h3_;have BK108:=n0_;have GW108:=n1_;have GE108:=n2_;have HB:=n3_;clear n0_ n1_ n2_ n3_;have hHeld:w14.cell? (ad103.add (x15_1).toNat)=some (.int .i64 (rd l0 x15_1))∧w14.cell? (ad102.add (x15_1).toNat)=some (.int .i64 (rd l1 x15_1))∧w14.cell? (ad102.add (x15_1).toNat)=some (.int .i64 (rd l1 x15_1)):=hS_;refine norm_ (a':=?_) ?_ ?_
          rotate_left
          ·simp only [putAll,Act.put,aA,aB,aC]
           rfl
          refine one_ (i:=16) (N:=none) #[true,true,true,true,true,true,true,true,true,true,true,true,true,true,true,true,true] rfl rfl (one_of HT_.out (by kernel_rfl)) (by decide) (fun K hK=>?_);have hs15:w14.cell? ⟨gb108,0,none⟩=some (.int .i64 0):=(Qk BK108.out 0).trans rfl;have hfs15:=Qh BK108.out 0;have hs16:w14.cell? ⟨gb108,1,none⟩=some (.int .i64 0):=(Qk BK108.out 1).trans rfl;have hfs16:=Qh BK108.out 1;refine skip_ (w1:=?_) (by rfl) rfl ?_ ?_
          rotate_left
          ·go_simp
           rfl
          refine hK.out _ _ ⟨((cell_far (p:=⟨gb108,_,none⟩) (by first|exact Nat.ne_of_lt (Nat.lt_of_lt_of_le (by have:=aI _ _ hw103_0;first|rwa [Qw] at this|exact this) GW108.out)|(rw [Qw];exact Nat.ne_of_lt (Nat.lt_of_lt_of_le (by have:=aI _ _ hw103_0;first|rwa [Qw] at this|exact this) GW108.out))|(show (Addr.add _ _).block≠_;rw [Qw];exact Nat.ne_of_lt (Nat.lt_of_lt_of_le (by have:=aI _ _ hw103_0;first|rwa [Qw] at this|exact this) GW108.out))|(dsimp only;exact Nat.ne_of_lt (Nat.lt_of_lt_of_le (by have:=aI _ _ hw103_0;first|rwa [Qw] at this|exact this) GW108.out))) _).trans (((cell_far (p:=⟨gb108,_,none⟩) (by first|exact Nat.ne_of_lt (Nat.lt_of_lt_of_le (by have:=aI _ _ hw103_0;first|rwa [Qw] at this|exact this) GW108.out)|(rw [Qw];exact Nat.ne_of_lt (Nat.lt_of_lt_of_le (by have:=aI _ _ hw103_0;first|rwa [Qw] at this|exact this) GW108.out))|(show (Addr.add _ _).block≠_;rw [Qw];exact Nat.ne_of_lt (Nat.lt_of_lt_of_le (by have:=aI _ _ hw103_0;first|rwa [Qw] at this|exact this) GW108.out))|(dsimp only;exact Nat.ne_of_lt (Nat.lt_of_lt_of_le (by have:=aI _ _ hw103_0;first|rwa [Qw] at this|exact this) GW108.out))) _).trans (hHeld.1)))),((cell_far (p:=⟨gb108,_,none⟩) (by first|exact Nat.ne_of_lt (Nat.lt_of_lt_of_le (by have:=aI _ _ hw104_0;first|rwa [Qw] at this|exact this) GW108.out)|(rw [Qw];exact Nat.ne_of_lt (Nat.lt_of_lt_of_le (by have:=aI _ _ hw104_0;first|rwa [Qw] at this|exact this) GW108.out))|(show (Addr.add _ _).block≠_;rw [Qw];exact Nat.ne_of_lt (Nat.lt_of_lt_of_le (by have:=aI _ _ hw104_0;first|rwa [Qw] at this|exact this) GW108.out))|(dsimp only;exact Nat.ne_of_lt (Nat.lt_of_lt_of_le (by have:=aI _ _ hw104_0;first|rwa [Qw] at this|exact this) GW108.out))) _).trans (((cell_far (p:=⟨gb108,_,none⟩) (by first|exact Nat.ne_of_lt (Nat.lt_of_lt_of_le (by have:=aI _ _ hw104_0;first|rwa [Qw] at this|exact this) GW108.out)|(rw [Qw];exact Nat.ne_of_lt (Nat.lt_of_lt_of_le (by have:=aI _ _ hw104_0;first|rwa [Qw] at this|exact this) GW108.out))|(show (Addr.add _ _).block≠_;rw [Qw];exact Nat.ne_of_lt (Nat.lt_of_lt_of_le (by have:=aI _ _ hw104_0;first|rwa [Qw] at this|exact this) GW108.out))|(dsimp only;exact Nat.ne_of_lt (Nat.lt_of_lt_of_le (by have:=aI _ _ hw104_0;first|rwa [Qw] at this|exact this) GW108.out))) _).trans (hHeld.2.1)))),((cell_far (p:=⟨gb108,_,none⟩) (by first|exact Nat.ne_of_lt (Nat.lt_of_lt_of_le (by have:=aI _ _ hw105_0;first|rwa [Qw] at this|exact this) GW108.out)|(rw [Qw];exact Nat.ne_of_lt (Nat.lt_of_lt_of_le (by have:=aI _ _ hw105_0;first|rwa [Qw] at this|exact this) GW108.out))|(show (Addr.add _ _).block≠_;rw [Qw];exact Nat.ne_of_lt (Nat.lt_of_lt_of_le (by have:=aI _ _ hw105_0;first|rwa [Qw] at this|exact this) GW108.out))|(dsimp only;exact Nat.ne_of_lt (Nat.lt_of_lt_of_le (by have:=aI _ _ hw105_0;first|rwa [Qw] at this|exact this) GW108.out))) _).trans (((cell_far (p:=⟨gb108,_,none⟩) (by first|exact Nat.ne_of_lt (Nat.lt_of_lt_of_le (by have:=aI _ _ hw105_0;first|rwa [Qw] at this|exact this) GW108.out)|(rw [Qw];exact Nat.ne_of_lt (Nat.lt_of_lt_of_le (by have:=aI _ _ hw105_0;first|rwa [Qw] at this|exact this) GW108.out))|(show (Addr.add _ _).block≠_;rw [Qw];exact Nat.ne_of_lt (Nat.lt_of_lt_of_le (by have:=aI _ _ hw105_0;first|rwa [Qw] at this|exact this) GW108.out))|(dsimp only;exact Nat.ne_of_lt (Nat.lt_of_lt_of_le (by have:=aI _ _ hw105_0;first|rwa [Qw] at this|exact this) GW108.out))) _).trans (hHeld.2.2))))⟩ (fun hHeld=>?_);clear hK K;refine done_ (done_of HT_.out (by kernel_rfl)) ?_
          try go_wp2
          go_loopg [40] k1 (fun kq v40 w'=>∃ (x40_2:Int),v40= .int .i64 x40_2∧Aside0 (spec_IsStable.l1 kq l0 l1 x15_1 (l0.length:Int) x15_1 (l0.length:Int) x40_2 t106 t107=some (r1,r2))∧Aside0 (kq≤k1)∧Aside0 (w'.heap[gb108]? = some (.cells #[.int .i64 t106,.int .i64 t107] 61 (0,0)))∧Aside0 (Below w.heap.size w w'))
          case atStart=>exact ⟨(0),(by first|rfl|(simp;done)|(simp [*];done)),H',⟨Nat.le_refl _⟩,⟨by (with_reducible repeat (first|apply Qe|apply Qg|apply Qd));refine Qv (cs:=#[.int .i64 t106,.int .i64 0]) ?_ 1 _ rfl;(with_reducible repeat (first|apply Qe|apply Qg|apply Qd));refine Qv (cs:=#[.int .i64 0,.int .i64 0]) ?_ 0 _ rfl;(with_reducible repeat (first|apply Qe|apply Qg|apply Qd));exact BK108.out⟩,⟨by repeat (first|(with_reducible first|exact HB.out|apply Qc|apply Qa|apply Qb|refine Qf ?_ GE108.out)|exact HB.out)⟩⟩
          case round=>
           clear H';(try clear c1);(try clear p1);(try clear q1);(try clear hx1);(try clear c2);(try clear p2);(try clear c4);(try clear c5);(try clear c5b0);(try clear c6);(try clear c6b0);(try clear p6);(try clear c7);(try clear c7b0);(try clear c8);(try clear c8b0);(try clear c8b1);(try clear c9);(try clear c9b0);(try clear p10);(try clear q10);(try clear hx10);(try clear hx102_0);(try clear hx103_0);(try clear hx104_0);(try clear hx105_0);(try clear p102);(try clear p103);(try clear p104);(try clear p105);(try clear p2);(try clear q102);(try clear q103);(try clear q104);(try clear q105);obtain ⟨x40_2,rfl,HA,HK2,BK108,HB⟩:=hrel
           cases gk with
           |zero=>exact absurd HA.out (by simp [spec_IsStable.l1])
           |succ k2=>
            have H:=HA.out;clear HA;simp only [spec_IsStable.l1] at H;by_cases c17:x40_2<(l0.length:Int)
            ·rw [if_pos c17] at H;have c17b0:decide (x40_2<(l0.length:Int))=true:=decide_eq_true c17;clear c17;by_cases c18:x40_2=x15_1
             ·rw [if_pos c18] at H;have c18b0:(x40_2 == x15_1)=true:=beq_iff_eq.mpr c18;have c18b1:(x40_2 != x15_1)=false:=bne_eq_false_iff_eq.mpr c18;clear c18;have H':=aM H;clear H
              try go_wp2
              have n0_:=aM (Qg BK108.out);have n1_:=aM (Qb HB.out);clear BK108;clear HB;have BK108:=n0_;have HB:=n1_;clear n0_ n1_;refine start_ (n:=11) (S:=fun w'=>True) (ds:=[]) #[false,false,false,false,false,false,false,false,false,false,false] (by kernel_rfl) rfl rfl trivial (fun hHeld=>?_);refine with_tabW spec_IsStable.tab11 spec_IsStable.bits11 (fun HT_ HW_=>?_)
              generalize wr.drew=w19 at BK108 HB hHeld ⊢
              refine pure_ (i:=0) (N:=some 43) (v:=?_) (a':=?_) #[true,false,false,false,false,false,false,false,false,false,false] rfl rfl (any_of HT_.out (by kernel_rfl)) (fun _ _ _ h=>h) (Or.inl ⟨by rfl,?_⟩) ?_ ?_
              rotate_left
              ·intro w'
               go_simp
               with_reducible rfl
              rotate_left
              ·simp only [Act.put,aA,aB,aC,i64_w,i32_w]
               rfl
              refine pure_ (i:=1) (N:=some 44) (v:=?_) (a':=?_) #[true,true,false,false,false,false,false,false,false,false,false] rfl rfl (any_of HT_.out (by kernel_rfl)) (fun _ _ _ h=>h) (Or.inl ⟨by rfl,?_⟩) ?_ ?_
              rotate_left
              ·intro w'
               go_simp
               with_reducible rfl
              rotate_left
              ·simp only [Act.put,aA,aB,aC,i64_w,i32_w]
               rfl
              refine pure_ (i:=2) (N:=some 45) (v:=?_) (a':=?_) #[true,true,true,false,false,false,false,false,false,false,false] rfl rfl (any_of HT_.out (by kernel_rfl)) (fun _ _ _ h=>h) (Or.inl ⟨by rfl,?_⟩) ?_ ?_
              rotate_left
              ·intro w'
               go_simp
               with_reducible rfl
              rotate_left
              ·simp only [Act.put,aA,aB,aC,i64_w,i32_w]
               rfl
              refine pure_ (i:=3) (N:=some 46) (v:=?_) (a':=?_) #[true,true,true,true,false,false,false,false,false,false,false] rfl rfl (any_of HT_.out (by kernel_rfl)) (fun _ _ _ h=>h) (Or.inl ⟨by rfl,?_⟩) ?_ ?_
              rotate_left
              ·intro w'
               go_simp
               with_reducible rfl
              rotate_left
              ·simp only [Act.put,aA,aB,aC,i64_w,i32_w]
               rfl
              refine pure_ (i:=4) (N:=some 47) (v:=undef) (a':=?_) #[true,true,true,true,true,false,false,false,false,false,false] rfl rfl (any_of HT_.out (by kernel_rfl)) (fun _ _ _ h=>h) (Or.inr ⟨by rfl,rfl⟩) ?_ ?_
              rotate_left
              ·simp only [Act.put,aA,aB,aC,i64_w,i32_w]
               rfl
              refine pure_ (i:=5) (N:=some 48) (v:=undef) (a':=?_) #[true,true,true,true,true,true,false,false,false,false,false] rfl rfl (any_of HT_.out (by kernel_rfl)) (fun _ _ _ h=>h) (Or.inr ⟨by rfl,rfl⟩) ?_ ?_
              rotate_left
              ·simp only [Act.put,aA,aB,aC,i64_w,i32_w]
               rfl
              refine pure_ (i:=6) (N:=some 49) (v:=undef) (a':=?_) #[true,true,true,true,true,true,true,false,false,false,false] rfl rfl (any_of HT_.out (by kernel_rfl)) (fun _ _ _ h=>h) (Or.inr ⟨by rfl,rfl⟩) ?_ ?_
              rotate_left
              ·simp only [Act.put,aA,aB,aC,i64_w,i32_w]
               rfl
              refine pure_ (i:=7) (N:=some 50) (v:=undef) (a':=?_) #[true,true,true,true,true,true,true,true,false,false,false] rfl rfl (any_of HT_.out (by kernel_rfl)) (fun _ _ _ h=>h) (Or.inr ⟨by rfl,rfl⟩) ?_ ?_
              rotate_left
              ·simp only [Act.put,aA,aB,aC,i64_w,i32_w]
               rfl
              refine pure_ (i:=8) (N:=some 51) (v:=undef) (a':=?_) #[true,true,true,true,true,true,true,true,true,false,false] rfl rfl (any_of HT_.out (by kernel_rfl)) (fun _ _ _ h=>h) (Or.inr ⟨by rfl,rfl⟩) ?_ ?_
              rotate_left
              ·simp only [Act.put,aA,aB,aC,i64_w,i32_w]
               rfl
              refine pure_ (i:=9) (N:=some 52) (v:=undef) (a':=?_) #[true,true,true,true,true,true,true,true,true,true,false] rfl rfl (any_of HT_.out (by kernel_rfl)) (fun _ _ _ h=>h) (Or.inr ⟨by rfl,rfl⟩) ?_ ?_
              rotate_left
              ·simp only [Act.put,aA,aB,aC,i64_w,i32_w]
               rfl
              refine pure_ (i:=10) (N:=some 53) (v:=?_) (a':=?_) #[true,true,true,true,true,true,true,true,true,true,true] rfl rfl (any_of HT_.out (by kernel_rfl)) (fun _ _ _ h=>h) (Or.inl ⟨by rfl,?_⟩) ?_ ?_
              rotate_left
              ·intro w'
               go_simp
               with_reducible rfl
              rotate_left
              ·simp only [Act.put,aA,aB,aC,i64_w,i32_w]
               rfl
              refine done_ (done_of HT_.out (by kernel_rfl)) ?_
              try go_wp2
              go_roundg k2
              case measure=>have:=HK1.out;have:=HK2.out;omega
              case rel=>exact ⟨(wrap64 (x40_2+1)),(by first|rfl|(simp;done)|(simp [*];done)),H',⟨by have:=HK1.out;have:=HK2.out;omega⟩,⟨by (with_reducible repeat (first|apply Qe|apply Qg|apply Qd));exact BK108.out⟩,⟨by repeat (first|(with_reducible first|exact HB.out|apply Qc|apply Qa|apply Qb|refine Qf ?_ GE108.out)|exact HB.out)⟩⟩
             ·rw [if_neg c18] at H;have c18b0:(x40_2 == x15_1)=false:=beq_eq_false_iff_ne.mpr c18;have c18b1:(x40_2 != x15_1)=true:=bne_iff_ne.mpr c18;replace H:=Option.bind_eq_some_iff.mp H;obtain ⟨⟨t109,t110⟩,A200,H⟩:=H;replace H:((spec_l1Less.f t106 t107 t109 t110).bind fun t111=>(if t111=true then (some (false,true)) else (spec_IsStable.l1 k2 l0 l1 x15_1 (l0.length:Int) x15_1 (l0.length:Int) (wrap64 (x40_2+1)) t106 t107)))=some (r1,r2):=H;have A20:=aM A200;clear A200;replace H:=Option.bind_eq_some_iff.mp H;obtain ⟨t111,A210,H⟩:=H;replace H:(if t111=true then (some (false,true)) else (spec_IsStable.l1 k2 l0 l1 x15_1 (l0.length:Int) x15_1 (l0.length:Int) (wrap64 (x40_2+1)) t106 t107))=some (r1,r2):=H;have A21:=aM A210;clear A210;by_cases c22:t111=true
              ·subst c22;have H1:(some (false,true))=some (r1,r2):=by rw [if_pos rfl] at H;exact H
               clear H;have H:=H1;clear H1;simp only [Option.some.injEq,Prod.mk.injEq] at H;obtain ⟨rfl,rfl⟩:=H
               try go_wp2
               have n0_:=aM (Qg BK108.out);have n1_:=aM (Qb HB.out);clear BK108;clear HB;have BK108:=n0_;have HB:=n1_;clear n0_ n1_;refine start_ (n:=11) (S:=fun w'=>w'.cell? ⟨gb108,0,none⟩=some (.int .i64 t106)∧w'.cell? ⟨gb108,1,none⟩=some (.int .i64 t107)) (ds:=[]) #[false,false,false,false,false,false,false,false,false,false,false] (by kernel_rfl) rfl rfl ⟨(Qk BK108.out 0).trans rfl,(Qk BK108.out 1).trans rfl⟩ (fun hHeld=>?_);refine with_tabW spec_IsStable.tab11 spec_IsStable.bits11 (fun HT_ HW_=>?_)
               generalize wr.drew=w23 at BK108 HB hHeld ⊢
               refine pure_ (i:=0) (N:=some 43) (v:=?_) (a':=?_) #[true,false,false,false,false,false,false,false,false,false,false] rfl rfl (any_of HT_.out (by kernel_rfl)) (fun _ _ _ h=>h) (Or.inl ⟨by rfl,?_⟩) ?_ ?_
               rotate_left
               ·intro w'
                go_simp
                with_reducible rfl
               rotate_left
               ·simp only [Act.put,aA,aB,aC,i64_w,i32_w]
                rfl
               refine pure_ (i:=1) (N:=some 44) (v:=?_) (a':=?_) #[true,true,false,false,false,false,false,false,false,false,false] rfl rfl (any_of HT_.out (by kernel_rfl)) (fun _ _ _ h=>h) (Or.inl ⟨by rfl,?_⟩) ?_ ?_
               rotate_left
               ·intro w'
                go_simp
                with_reducible rfl
               rotate_left
               ·simp only [Act.put,aA,aB,aC,i64_w,i32_w]
                rfl
               refine pure_ (i:=2) (N:=some 45) (v:=?_) (a':=?_) #[true,true,true,false,false,false,false,false,false,false,false] rfl rfl (any_of HT_.out (by kernel_rfl)) (fun _ _ _ h=>h) (Or.inl ⟨by rfl,?_⟩) ?_ ?_
               rotate_left
               ·intro w'
                go_simp
                with_reducible rfl
               rotate_left
               ·simp only [Act.put,aA,aB,aC,i64_w,i32_w]
                rfl
               refine pure_ (i:=3) (N:=some 46) (v:=?_) (a':=?_) #[true,true,true,true,false,false,false,false,false,false,false] rfl rfl (any_of HT_.out (by kernel_rfl)) (fun _ _ _ h=>h) (Or.inl ⟨by rfl,?_⟩) ?_ ?_
               rotate_left
               ·intro w'
                go_simp
                with_reducible rfl
               rotate_left
               ·simp only [Act.put,aA,aB,aC,i64_w,i32_w]
                rfl
               refine pure_ (i:=5) (N:=some 48) (v:=?_) (a':=?_) #[true,true,true,true,false,true,false,false,false,false,false] rfl rfl (any_of HT_.out (by kernel_rfl)) (fun _ _ _ h=>h) (Or.inl ⟨by rfl,?_⟩) ?_ ?_
               rotate_left
               ·intro w'
                go_simp
                with_reducible rfl
               rotate_left
               ·simp only [Act.put,aA,aB,aC,i64_w,i32_w]
                rfl
               refine pure_ (i:=6) (N:=some 49) (v:=?_) (a':=?_) #[true,true,true,true,false,true,true,false,false,false,false] rfl rfl (any_of HT_.out (by kernel_rfl)) (fun _ _ _ h=>h) (Or.inl ⟨by rfl,?_⟩) ?_ ?_
               rotate_left
               ·intro w'
                go_simp
                with_reducible rfl
               rotate_left
               ·simp only [Act.put,aA,aB,aC,i64_w,i32_w]
                rfl
               refine pure_ (i:=7) (N:=some 50) (v:=?_) (a':=?_) #[true,true,true,true,false,true,true,true,false,false,false] rfl rfl (any_of HT_.out (by kernel_rfl)) (fun _ _ _ h=>h) (Or.inl ⟨by rfl,?_⟩) ?_ ?_
               rotate_left
               ·intro w'
                go_simp
                with_reducible rfl
               rotate_left
               ·simp only [Act.put,aA,aB,aC,i64_w,i32_w]
                rfl
               refine take_ (i:=4) (N:=some 47) (v:=?_) (a':=?_) #[true,true,true,true,true,true,true,true,false,false,false] rfl rfl (take_ofW HT_.out HW_.out (by kernel_rfl)) (fun _ _ _ h=>h) (Or.inl ⟨by rfl,?_⟩) hHeld ?_ ?_
               rotate_left
               ·rintro w' ⟨s0,s1⟩
                go_simp
                with_reducible rfl
               rotate_left
               ·simp only [Act.put,aA,aB,aC,i64_w,i32_w]
                rfl
               refine one_ (i:=8) (N:=some 51) #[true,true,true,true,true,true,true,true,true,false,false] rfl rfl (one_of HT_.out (by kernel_rfl)) (by decide) (fun K hK=>?_)
               first|(refine goes_ Try.func201 (by kernel_rfl) rfl #[.slice (some ad103) l0.length c0,.slice (some ad102) l1.length c1,.int .i64 x40_2] (by rfl) rfl rfl (by (try simp only [aD,aE,aF]);first|done|rfl|(simp only [aG,aH];rfl)) ?_)|(refine call_ 201 #[.slice (some ad103) l0.length c0,.slice (some ad102) l1.length c1,.int .i64 x40_2] (by rfl) rfl (by unfold execOp;simp [resolve,Deferred.ofValue,invoke,Act.eval,enters_ Try.func201 (by kernel_rfl) rfl]) ?_)
               with_reducible refine (spec_l4Gain.calls k2 _ _ l0 _ _ l1 x40_2 t109 t110 _ ?side1 ?side2 ?side3 ?side4 A20.out).mono ?_
               (case side1=>repeat (first|exact (Kd.C_below HR0.out HB.out)|(with_reducible refine Kd.Qr ?_ _)|(with_reducible refine Kd.Qs ?_ _)|(with_reducible refine Kd.C_drew ?_)))
               (case side2=>exact HC0.out)
               (case side3=>repeat (first|exact (Kd.C_below HR1.out HB.out)|(with_reducible refine Kd.Qr ?_ _)|(with_reducible refine Kd.Qs ?_ _)|(with_reducible refine Kd.C_drew ?_)))
               (case side4=>exact HC1.out)
               rintro e w24 ⟨rfl,hb⟩
               refine ⟨_,rfl,?_⟩;have n0_:=aM (Qn (g:=gb108) (o:= .cells #[.int .i64 t106,.int .i64 t107] 61 (0,0)) (by (with_reducible repeat (first|apply Qe|apply Qg|apply Qd));exact BK108.out) hb);have n1_:=aM (Qi (by repeat (first|(with_reducible first|exact HB.out|apply Qc|apply Qa|apply Qb|refine Qf ?_ GE108.out)|exact HB.out)) hb);clear BK108;clear HB;have BK108:=n0_;have HB:=n1_;clear n0_ n1_;(try clear hb);(try clear hb2);(try clear hk);(try clear hi);refine hK.out _ _ ⟨(Qk BK108.out 0).trans rfl,(Qk BK108.out 1).trans rfl⟩ (fun hHeld=>?_);clear hK K;refine norm_ (a':=?_) ?_ ?_
               rotate_left
               ·show Act.put _ (some 51) _=_
                simp only [Act.put,aA,aB,aC,i64_w,i32_w]
                rfl
               refine one_ (i:=9) (N:=some 52) #[true,true,true,true,true,true,true,true,true,true,false] rfl rfl (one_of HT_.out (by kernel_rfl)) (by decide) (fun K hK=>?_)
               first|(refine goes_ Try.func174 (by kernel_rfl) rfl #[.agg #[.int .i64 t106,.int .i64 t107],.agg #[.int .i64 t109,.int .i64 t110]] (by rfl) rfl rfl (by (try simp only [aD,aE,aF]);first|done|rfl|(simp only [aG,aH];rfl)) ?_)|(refine call_ 174 #[.agg #[.int .i64 t106,.int .i64 t107],.agg #[.int .i64 t109,.int .i64 t110]] (by rfl) rfl (by unfold execOp;simp [resolve,Deferred.ofValue,invoke,Act.eval,enters_ Try.func174 (by kernel_rfl) rfl]) ?_)
               with_reducible refine (spec_l1Less.calls t106 t107 t109 t110 true _ A21.out).mono ?_
               rintro e w25 ⟨rfl,hb⟩
               refine ⟨_,rfl,?_⟩;have n0_:=aM (Qn (g:=gb108) (o:= .cells #[.int .i64 t106,.int .i64 t107] 61 (0,0)) (by (with_reducible repeat (first|apply Qe|apply Qg|apply Qd));exact BK108.out) hb);have n1_:=aM (Qi (by repeat (first|(with_reducible first|exact HB.out|apply Qc|apply Qa|apply Qb|refine Qf ?_ GE108.out)|exact HB.out)) hb);clear BK108;clear HB;have BK108:=n0_;have HB:=n1_;clear n0_ n1_;(try clear hb);(try clear hb2);(try clear hk);(try clear hi);refine hK.out _ _ ⟨(Qk BK108.out 0).trans rfl,(Qk BK108.out 1).trans rfl⟩ (fun hHeld=>?_);clear hK K;refine norm_ (a':=?_) ?_ ?_
               rotate_left
               ·show Act.put _ (some 52) _=_
                simp only [Act.put,aA,aB,aC,i64_w,i32_w]
                rfl
               refine pure_ (i:=10) (N:=some 53) (v:=?_) (a':=?_) #[true,true,true,true,true,true,true,true,true,true,true] rfl rfl (any_of HT_.out (by kernel_rfl)) (fun _ _ _ h=>h) (Or.inl ⟨by rfl,?_⟩) ?_ ?_
               rotate_left
               ·intro w'
                go_simp
                with_reducible rfl
               rotate_left
               ·simp only [Act.put,aA,aB,aC,i64_w,i32_w]
                rfl
               refine done_ (done_of HT_.out (by kernel_rfl)) ?_
               try go_wp2
               go_ret2
               exact ⟨by first|rfl|(simp [errW_none,errW_some] <;> rfl)|(simp [*,errW_none,errW_some] <;> rfl),by repeat (first|(with_reducible first|exact HB.out|apply Qc|apply Qa|apply Qb|refine Qf ?_ GE108.out)|exact HB.out)⟩
              ·replace c22:=Bool.eq_false_iff.mpr c22;subst c22;have H1:(spec_IsStable.l1 k2 l0 l1 x15_1 (l0.length:Int) x15_1 (l0.length:Int) (wrap64 (x40_2+1)) t106 t107)=some (r1,r2):=by rw [if_neg (show ¬ (false=true) by decide)] at H;exact H
               clear H;have H:=H1;clear H1;have H':=aM H;clear H
               try go_wp2
               have n0_:=aM (Qg BK108.out);have n1_:=aM (Qb HB.out);clear BK108;clear HB;have BK108:=n0_;have HB:=n1_;clear n0_ n1_;refine start_ (n:=11) (S:=fun w'=>w'.cell? ⟨gb108,0,none⟩=some (.int .i64 t106)∧w'.cell? ⟨gb108,1,none⟩=some (.int .i64 t107)) (ds:=[]) #[false,false,false,false,false,false,false,false,false,false,false] (by kernel_rfl) rfl rfl ⟨(Qk BK108.out 0).trans rfl,(Qk BK108.out 1).trans rfl⟩ (fun hHeld=>?_);refine with_tabW spec_IsStable.tab11 spec_IsStable.bits11 (fun HT_ HW_=>?_)
               generalize wr.drew=w26 at BK108 HB hHeld ⊢
               refine pure_ (i:=0) (N:=some 43) (v:=?_) (a':=?_) #[true,false,false,false,false,false,false,false,false,false,false] rfl rfl (any_of HT_.out (by kernel_rfl)) (fun _ _ _ h=>h) (Or.inl ⟨by rfl,?_⟩) ?_ ?_
               rotate_left
               ·intro w'
                go_simp
                with_reducible rfl
               rotate_left
               ·simp only [Act.put,aA,aB,aC,i64_w,i32_w]
                rfl
               refine pure_ (i:=1) (N:=some 44) (v:=?_) (a':=?_) #[true,true,false,false,false,false,false,false,false,false,false] rfl rfl (any_of HT_.out (by kernel_rfl)) (fun _ _ _ h=>h) (Or.inl ⟨by rfl,?_⟩) ?_ ?_
               rotate_left
               ·intro w'
                go_simp
                with_reducible rfl
               rotate_left
               ·simp only [Act.put,aA,aB,aC,i64_w,i32_w]
                rfl
               refine pure_ (i:=2) (N:=some 45) (v:=?_) (a':=?_) #[true,true,true,false,false,false,false,false,false,false,false] rfl rfl (any_of HT_.out (by kernel_rfl)) (fun _ _ _ h=>h) (Or.inl ⟨by rfl,?_⟩) ?_ ?_
               rotate_left
               ·intro w'
                go_simp
                with_reducible rfl
               rotate_left
               ·simp only [Act.put,aA,aB,aC,i64_w,i32_w]
                rfl
               refine pure_ (i:=3) (N:=some 46) (v:=?_) (a':=?_) #[true,true,true,true,false,false,false,false,false,false,false] rfl rfl (any_of HT_.out (by kernel_rfl)) (fun _ _ _ h=>h) (Or.inl ⟨by rfl,?_⟩) ?_ ?_
               rotate_left
               ·intro w'
                go_simp
                with_reducible rfl
               rotate_left
               ·simp only [Act.put,aA,aB,aC,i64_w,i32_w]
                rfl
               refine pure_ (i:=5) (N:=some 48) (v:=?_) (a':=?_) #[true,true,true,true,false,true,false,false,false,false,false] rfl rfl (any_of HT_.out (by kernel_rfl)) (fun _ _ _ h=>h) (Or.inl ⟨by rfl,?_⟩) ?_ ?_
               rotate_left
               ·intro w'
                go_simp
                with_reducible rfl
               rotate_left
               ·simp only [Act.put,aA,aB,aC,i64_w,i32_w]
                rfl
               refine pure_ (i:=6) (N:=some 49) (v:=?_) (a':=?_) #[true,true,true,true,false,true,true,false,false,false,false] rfl rfl (any_of HT_.out (by kernel_rfl)) (fun _ _ _ h=>h) (Or.inl ⟨by rfl,?_⟩) ?_ ?_
               rotate_left
               ·intro w'
                go_simp
                with_reducible rfl
               rotate_left
               ·simp only [Act.put,aA,aB,aC,i64_w,i32_w]
                rfl
               refine pure_ (i:=7) (N:=some 50) (v:=?_) (a':=?_) #[true,true,true,true,false,true,true,true,false,false,false] rfl rfl (any_of HT_.out (by kernel_rfl)) (fun _ _ _ h=>h) (Or.inl ⟨by rfl,?_⟩) ?_ ?_
               rotate_left
               ·intro w'
                go_simp
                with_reducible rfl
               rotate_left
               ·simp only [Act.put,aA,aB,aC,i64_w,i32_w]
                rfl
               refine take_ (i:=4) (N:=some 47) (v:=?_) (a':=?_) #[true,true,true,true,true,true,true,true,false,false,false] rfl rfl (take_ofW HT_.out HW_.out (by kernel_rfl)) (fun _ _ _ h=>h) (Or.inl ⟨by rfl,?_⟩) hHeld ?_ ?_
               rotate_left
               ·rintro w' ⟨s0,s1⟩
                go_simp
                with_reducible rfl
               rotate_left
               ·simp only [Act.put,aA,aB,aC,i64_w,i32_w]
                rfl
               refine one_ (i:=8) (N:=some 51) #[true,true,true,true,true,true,true,true,true,false,false] rfl rfl (one_of HT_.out (by kernel_rfl)) (by decide) (fun K hK=>?_)
               first|(refine goes_ Try.func201 (by kernel_rfl) rfl #[.slice (some ad103) l0.length c0,.slice (some ad102) l1.length c1,.int .i64 x40_2] (by rfl) rfl rfl (by (try simp only [aD,aE,aF]);first|done|rfl|(simp only [aG,aH];rfl)) ?_)|(refine call_ 201 #[.slice (some ad103) l0.length c0,.slice (some ad102) l1.length c1,.int .i64 x40_2] (by rfl) rfl (by unfold execOp;simp [resolve,Deferred.ofValue,invoke,Act.eval,enters_ Try.func201 (by kernel_rfl) rfl]) ?_)
               with_reducible refine (spec_l4Gain.calls k2 _ _ l0 _ _ l1 x40_2 t109 t110 _ ?side1 ?side2 ?side3 ?side4 A20.out).mono ?_
               (case side1=>repeat (first|exact (Kd.C_below HR0.out HB.out)|(with_reducible refine Kd.Qr ?_ _)|(with_reducible refine Kd.Qs ?_ _)|(with_reducible refine Kd.C_drew ?_)))
               (case side2=>exact HC0.out)
               (case side3=>repeat (first|exact (Kd.C_below HR1.out HB.out)|(with_reducible refine Kd.Qr ?_ _)|(with_reducible refine Kd.Qs ?_ _)|(with_reducible refine Kd.C_drew ?_)))
               (case side4=>exact HC1.out)
               rintro e w27 ⟨rfl,hb⟩
               refine ⟨_,rfl,?_⟩;have n0_:=aM (Qn (g:=gb108) (o:= .cells #[.int .i64 t106,.int .i64 t107] 61 (0,0)) (by (with_reducible repeat (first|apply Qe|apply Qg|apply Qd));exact BK108.out) hb);have n1_:=aM (Qi (by repeat (first|(with_reducible first|exact HB.out|apply Qc|apply Qa|apply Qb|refine Qf ?_ GE108.out)|exact HB.out)) hb);clear BK108;clear HB;have BK108:=n0_;have HB:=n1_;clear n0_ n1_;(try clear hb);(try clear hb2);(try clear hk);(try clear hi);refine hK.out _ _ ⟨(Qk BK108.out 0).trans rfl,(Qk BK108.out 1).trans rfl⟩ (fun hHeld=>?_);clear hK K;refine norm_ (a':=?_) ?_ ?_
               rotate_left
               ·show Act.put _ (some 51) _=_
                simp only [Act.put,aA,aB,aC,i64_w,i32_w]
                rfl
               refine one_ (i:=9) (N:=some 52) #[true,true,true,true,true,true,true,true,true,true,false] rfl rfl (one_of HT_.out (by kernel_rfl)) (by decide) (fun K hK=>?_)
               first|(refine goes_ Try.func174 (by kernel_rfl) rfl #[.agg #[.int .i64 t106,.int .i64 t107],.agg #[.int .i64 t109,.int .i64 t110]] (by rfl) rfl rfl (by (try simp only [aD,aE,aF]);first|done|rfl|(simp only [aG,aH];rfl)) ?_)|(refine call_ 174 #[.agg #[.int .i64 t106,.int .i64 t107],.agg #[.int .i64 t109,.int .i64 t110]] (by rfl) rfl (by unfold execOp;simp [resolve,Deferred.ofValue,invoke,Act.eval,enters_ Try.func174 (by kernel_rfl) rfl]) ?_)
               with_reducible refine (spec_l1Less.calls t106 t107 t109 t110 false _ A21.out).mono ?_
               rintro e w28 ⟨rfl,hb⟩
               refine ⟨_,rfl,?_⟩;have n0_:=aM (Qn (g:=gb108) (o:= .cells #[.int .i64 t106,.int .i64 t107] 61 (0,0)) (by (with_reducible repeat (first|apply Qe|apply Qg|apply Qd));exact BK108.out) hb);have n1_:=aM (Qi (by repeat (first|(with_reducible first|exact HB.out|apply Qc|apply Qa|apply Qb|refine Qf ?_ GE108.out)|exact HB.out)) hb);clear BK108;clear HB;have BK108:=n0_;have HB:=n1_;clear n0_ n1_;(try clear hb);(try clear hb2);(try clear hk);(try clear hi);refine hK.out _ _ ⟨(Qk BK108.out 0).trans rfl,(Qk BK108.out 1).trans rfl⟩ (fun hHeld=>?_);clear hK K;refine norm_ (a':=?_) ?_ ?_
               rotate_left
               ·show Act.put _ (some 52) _=_
                simp only [Act.put,aA,aB,aC,i64_w,i32_w]
                rfl
               refine pure_ (i:=10) (N:=some 53) (v:=?_) (a':=?_) #[true,true,true,true,true,true,true,true,true,true,true] rfl rfl (any_of HT_.out (by kernel_rfl)) (fun _ _ _ h=>h) (Or.inl ⟨by rfl,?_⟩) ?_ ?_
               rotate_left
               ·intro w'
                go_simp
                with_reducible rfl
               rotate_left
               ·simp only [Act.put,aA,aB,aC,i64_w,i32_w]
                rfl
               refine done_ (done_of HT_.out (by kernel_rfl)) ?_
               try go_wp2
               go_roundg k2
               case measure=>have:=HK1.out;have:=HK2.out;omega
               case rel=>exact ⟨(wrap64 (x40_2+1)),(by first|rfl|(simp;done)|(simp [*];done)),H',⟨by have:=HK1.out;have:=HK2.out;omega⟩,⟨by (with_reducible repeat (first|apply Qe|apply Qg|apply Qd));exact BK108.out⟩,⟨by repeat (first|(with_reducible first|exact HB.out|apply Qc|apply Qa|apply Qb|refine Qf ?_ GE108.out)|exact HB.out)⟩⟩
            ·rw [if_neg c17] at H;have c17b0:decide (x40_2<(l0.length:Int))=false:=decide_eq_false c17;clear c17;have H':=aM H;clear H;go_wp2;go_roundg k2
             case measure=>have:=HK1.out;have:=HK2.out;omega
             case rel=>exact ⟨(wrap64 (x15_1+1)),(by first|rfl|(simp;done)|(simp [*];done)),H',⟨by have:=HK1.out;have:=HK2.out;omega⟩,⟨by repeat (first|(with_reducible first|exact HB.out|apply Qc|apply Qa|apply Qb|refine Qf ?_ GE108.out)|exact HB.out)⟩⟩
         ·rw [if_neg c9] at H;exact absurd H (by simp)
       ·rw [if_neg c7] at H;exact absurd H (by simp)
      ·rw [if_neg c6] at H;exact absurd H (by simp)
     ·rw [if_neg c5] at H;have c5b0:decide (x15_1<(l0.length:Int))=false:=decide_eq_false c5;clear c5;simp only [Option.some.injEq,Prod.mk.injEq] at H;obtain ⟨rfl,rfl⟩:=H;go_wp2
      go_ret2
      exact ⟨by first|rfl|(simp [errW_none,errW_some] <;> rfl)|(simp [*,errW_none,errW_some] <;> rfl),by repeat (first|(with_reducible first|exact HB.out|apply Qc|apply Qa|apply Qb)|exact HB.out)⟩
  ·replace c4:=Bool.eq_false_iff.mpr c4;subst c4;have H1:(some (false,false))=some (r1,r2):=by rw [if_neg (show ¬ (false=true) by decide)] at H;exact H
   clear H;have H:=H1;clear H1;simp only [Option.some.injEq,Prod.mk.injEq] at H;obtain ⟨rfl,rfl⟩:=H;go_enter Try.func84,Try.ntmps84;go_wp2_with (first|((with_reducible refine Qo (f:=200) rfl ?_);refine goesL_ (some 11) rfl rfl Try.func200 (by kernel_rfl) rfl #[.slice A0 l0.length c0,.slice A1 l1.length c1] rfl (by (try simp only [aD,aE,aF]);first|done|rfl|(simp only [aG,aH];rfl)) ?_;(with_reducible refine (spec_l4Counts.calls k _ _ l0 _ _ l1 false _ ?side1 ?side2 ?side3 ?side4 A3.out).mono ?_);(case side1=>repeat (first|exact HR0.out|(with_reducible refine Kd.Qr ?_ _)|(with_reducible refine Kd.Qs ?_ _)|(with_reducible refine Kd.C_drew ?_)));(case side2=>exact HC0.out);(case side3=>repeat (first|exact HR1.out|(with_reducible refine Kd.Qr ?_ _)|(with_reducible refine Kd.Qs ?_ _)|(with_reducible refine Kd.C_drew ?_)));(case side4=>exact HC1.out);rintro e w' ⟨rfl,⟨nd,rfl⟩⟩;refine ⟨_,rfl,?_⟩))
   go_ret2
   exact ⟨by first|rfl|(simp [errW_none,errW_some] <;> rfl)|(simp [*,errW_none,errW_some] <;> rfl),by repeat (first|(with_reducible first|exact HB.out|apply Qc|apply Qa|apply Qb)|exact HB.out)⟩

def spec_GoodFrac.f (k:Nat) (a0_0:Int) (a0_1:Int):Option (Bool):=(spec_l1In.f a0_0 (-1000000000) 1000000000).bind fun t102=>(if t102=true then ((spec_l1In.f a0_1 1 1000000000).bind fun t103=>(if t103=true then ((spec_l1Gcd.f k a0_0 a0_1).bind fun t104=>(some (t104 == 1))) else (some false))) else (some false))
set_option maxHeartbeats 8000000 in
set_option maxRecDepth 100000 in
theorem spec_GoodFrac.calls (k:Nat) (a0_0:Int) (a0_1:Int) (r:Bool) (w:World) (h:spec_GoodFrac.f k a0_0 a0_1=some r) :
    Calls Try.prog 173 #[.agg #[.int .i64 a0_0,.int .i64 a0_1]] w fun e w'=>e= .returned (.bool r)∧Below w.heap.size w w':=by
  have hu61:=Try.underlying61;have HB:=aM (Below.refl w.heap.size w);have H:((spec_l1In.f a0_0 (-1000000000) 1000000000).bind fun t102=>(if t102=true then ((spec_l1In.f a0_1 1 1000000000).bind fun t103=>(if t103=true then ((spec_l1Gcd.f k a0_0 a0_1).bind fun t104=>(some (t104 == 1))) else (some false))) else (some false)))=some r:=h;clear h;replace H:=Option.bind_eq_some_iff.mp H;obtain ⟨t102,A20,H⟩:=H;replace H:(if t102=true then ((spec_l1In.f a0_1 1 1000000000).bind fun t103=>(if t103=true then ((spec_l1Gcd.f k a0_0 a0_1).bind fun t104=>(some (t104 == 1))) else (some false))) else (some false))=some r:=H;have A2:=aM A20;clear A20;by_cases c3:t102=true
  ·subst c3;have H1:((spec_l1In.f a0_1 1 1000000000).bind fun t103=>(if t103=true then ((spec_l1Gcd.f k a0_0 a0_1).bind fun t104=>(some (t104 == 1))) else (some false)))=some r:=by rw [if_pos rfl] at H;exact H
   clear H;have H:=H1;clear H1;replace H:=Option.bind_eq_some_iff.mp H;obtain ⟨t103,A40,H⟩:=H;replace H:(if t103=true then ((spec_l1Gcd.f k a0_0 a0_1).bind fun t104=>(some (t104 == 1))) else (some false))=some r:=H;have A4:=aM A40;clear A40;by_cases c5:t103=true
   ·subst c5;have H1:((spec_l1Gcd.f k a0_0 a0_1).bind fun t104=>(some (t104 == 1)))=some r:=by rw [if_pos rfl] at H;exact H
    clear H;have H:=H1;clear H1;replace H:=Option.bind_eq_some_iff.mp H;obtain ⟨t104,A60,H⟩:=H;replace H:(some (t104 == 1))=some r:=H;have A6:=aM A60;clear A60;obtain rfl:=Option.some.inj H;go_enter Try.func173,Try.ntmps173;go_wp2_with (first|((with_reducible refine Qt (N:=1) rfl ?_);refine Qu ?hg (N:=1) ?hd (cs:=#[.int .i64 a0_0,.int .i64 a0_1]) (t:=61) ?hr ?_;(case hd=>rfl);(case hg=>rfl);(case hr=>first|(go_simp;done)|(go_simp;rfl));intro gb101 hg w7 hbox hb;have n0_:=aM (Qi (by repeat (first|(with_reducible first|exact HB.out|apply Qc|apply Qa|apply Qb)|exact HB.out)) hb);have n1_:=aM (hbox);have n2_:=aM ((by rw [hg];exact (Qj (by repeat (first|(with_reducible first|exact HB.out|apply Qc|apply Qa|apply Qb)|exact HB.out))):w.heap.size≤gb101));have n3_:=aM ((by rw [hg];exact (Qj (by repeat (first|(with_reducible first|exact HB.out|apply Qc|apply Qa|apply Qb)|exact HB.out))):w.heap.size≤gb101));clear HB;have HB:=n0_;have BK101:=n1_;have GW101:=n2_;have GE101:=n3_;clear n0_ n1_ n2_ n3_;clear hb hbox hg;have hcz8_0:w7.cell? ⟨gb101,0,none⟩=some (.int .i64 a0_0):=(Qk BK101.out 0).trans rfl;have hcz8_1:w7.cell? ⟨gb101,1,none⟩=some (.int .i64 a0_1):=(Qk BK101.out 1).trans rfl;have hfz8_0:=Qh BK101.out 0;have hfz8_1:=Qh BK101.out 1)|((with_reducible refine Qo (f:=147) rfl ?_);refine goesL_ (some 5) rfl rfl Try.func147 (by kernel_rfl) rfl #[.int .i64 a0_0,.int .i64 (-1000000000),.int .i64 1000000000] rfl (by (try simp only [aD,aE,aF]);first|done|rfl|(simp only [aG,aH];rfl)) ?_;(with_reducible refine (spec_l1In.calls a0_0 (-1000000000) 1000000000 true _ A2.out).mono ?_);rintro e w' ⟨rfl,⟨nd,rfl⟩⟩;refine ⟨_,rfl,?_⟩)|(go_at_call 147;(with_reducible refine (spec_l1In.calls a0_1 1 1000000000 true _ A4.out).mono ?_);rintro e w' ⟨rfl,⟨nd,rfl⟩⟩)|(go_at_call 253;(with_reducible refine (spec_l1Gcd.calls k a0_0 a0_1 t104 _ A6.out).mono ?_);rintro e w' ⟨rfl,⟨nd,rfl⟩⟩))
    go_ret
    exact ⟨by first|rfl|(simp [errW_none,errW_some] <;> rfl)|(simp [*,errW_none,errW_some] <;> rfl),by repeat (first|(with_reducible first|exact HB.out|apply Qc|apply Qa|apply Qb|refine Qf ?_ GE101.out)|exact HB.out)⟩
   ·replace c5:=Bool.eq_false_iff.mpr c5;subst c5;have H1:(some false)=some r:=by rw [if_neg (show ¬ (false=true) by decide)] at H;exact H
    clear H;have H:=H1;clear H1;obtain rfl:=Option.some.inj H;go_enter Try.func173,Try.ntmps173;go_wp2_with (first|((with_reducible refine Qt (N:=1) rfl ?_);refine Qu ?hg (N:=1) ?hd (cs:=#[.int .i64 a0_0,.int .i64 a0_1]) (t:=61) ?hr ?_;(case hd=>rfl);(case hg=>rfl);(case hr=>first|(go_simp;done)|(go_simp;rfl));intro gb101 hg w9 hbox hb;have n0_:=aM (Qi (by repeat (first|(with_reducible first|exact HB.out|apply Qc|apply Qa|apply Qb)|exact HB.out)) hb);have n1_:=aM (hbox);have n2_:=aM ((by rw [hg];exact (Qj (by repeat (first|(with_reducible first|exact HB.out|apply Qc|apply Qa|apply Qb)|exact HB.out))):w.heap.size≤gb101));have n3_:=aM ((by rw [hg];exact (Qj (by repeat (first|(with_reducible first|exact HB.out|apply Qc|apply Qa|apply Qb)|exact HB.out))):w.heap.size≤gb101));clear HB;have HB:=n0_;have BK101:=n1_;have GW101:=n2_;have GE101:=n3_;clear n0_ n1_ n2_ n3_;clear hb hbox hg;have hcz10_0:w9.cell? ⟨gb101,0,none⟩=some (.int .i64 a0_0):=(Qk BK101.out 0).trans rfl;have hcz10_1:w9.cell? ⟨gb101,1,none⟩=some (.int .i64 a0_1):=(Qk BK101.out 1).trans rfl;have hfz10_0:=Qh BK101.out 0;have hfz10_1:=Qh BK101.out 1)|((with_reducible refine Qo (f:=147) rfl ?_);refine goesL_ (some 5) rfl rfl Try.func147 (by kernel_rfl) rfl #[.int .i64 a0_0,.int .i64 (-1000000000),.int .i64 1000000000] rfl (by (try simp only [aD,aE,aF]);first|done|rfl|(simp only [aG,aH];rfl)) ?_;(with_reducible refine (spec_l1In.calls a0_0 (-1000000000) 1000000000 true _ A2.out).mono ?_);rintro e w' ⟨rfl,⟨nd,rfl⟩⟩;refine ⟨_,rfl,?_⟩)|(go_at_call 147;(with_reducible refine (spec_l1In.calls a0_1 1 1000000000 false _ A4.out).mono ?_);rintro e w' ⟨rfl,⟨nd,rfl⟩⟩))
    go_ret
    exact ⟨by first|rfl|(simp [errW_none,errW_some] <;> rfl)|(simp [*,errW_none,errW_some] <;> rfl),by repeat (first|(with_reducible first|exact HB.out|apply Qc|apply Qa|apply Qb|refine Qf ?_ GE101.out)|exact HB.out)⟩
  ·replace c3:=Bool.eq_false_iff.mpr c3;subst c3;have H1:(some false)=some r:=by rw [if_neg (show ¬ (false=true) by decide)] at H;exact H
   clear H;have H:=H1;clear H1;obtain rfl:=Option.some.inj H;go_enter Try.func173,Try.ntmps173;go_wp2_with (first|((with_reducible refine Qt (N:=1) rfl ?_);refine Qu ?hg (N:=1) ?hd (cs:=#[.int .i64 a0_0,.int .i64 a0_1]) (t:=61) ?hr ?_;(case hd=>rfl);(case hg=>rfl);(case hr=>first|(go_simp;done)|(go_simp;rfl));intro gb101 hg w11 hbox hb;have n0_:=aM (Qi (by repeat (first|(with_reducible first|exact HB.out|apply Qc|apply Qa|apply Qb)|exact HB.out)) hb);have n1_:=aM (hbox);have n2_:=aM ((by rw [hg];exact (Qj (by repeat (first|(with_reducible first|exact HB.out|apply Qc|apply Qa|apply Qb)|exact HB.out))):w.heap.size≤gb101));have n3_:=aM ((by rw [hg];exact (Qj (by repeat (first|(with_reducible first|exact HB.out|apply Qc|apply Qa|apply Qb)|exact HB.out))):w.heap.size≤gb101));clear HB;have HB:=n0_;have BK101:=n1_;have GW101:=n2_;have GE101:=n3_;clear n0_ n1_ n2_ n3_;clear hb hbox hg;have hcz12_0:w11.cell? ⟨gb101,0,none⟩=some (.int .i64 a0_0):=(Qk BK101.out 0).trans rfl;have hcz12_1:w11.cell? ⟨gb101,1,none⟩=some (.int .i64 a0_1):=(Qk BK101.out 1).trans rfl;have hfz12_0:=Qh BK101.out 0;have hfz12_1:=Qh BK101.out 1)|((with_reducible refine Qo (f:=147) rfl ?_);refine goesL_ (some 5) rfl rfl Try.func147 (by kernel_rfl) rfl #[.int .i64 a0_0,.int .i64 (-1000000000),.int .i64 1000000000] rfl (by (try simp only [aD,aE,aF]);first|done|rfl|(simp only [aG,aH];rfl)) ?_;(with_reducible refine (spec_l1In.calls a0_0 (-1000000000) 1000000000 false _ A2.out).mono ?_);rintro e w' ⟨rfl,⟨nd,rfl⟩⟩;refine ⟨_,rfl,?_⟩))
   go_ret
   exact ⟨by first|rfl|(simp [errW_none,errW_some] <;> rfl)|(simp [*,errW_none,errW_some] <;> rfl),by repeat (first|(with_reducible first|exact HB.out|apply Qc|apply Qa|apply Qb|refine Qf ?_ GE101.out)|exact HB.out)⟩

def spec_l1Both.f (k:Nat) (a0_0:Int) (a0_1:Int) (a1_0:Int) (a1_1:Int):Option (Bool):=(spec_GoodFrac.f k a0_0 a0_1).bind fun t103=>(if t103=true then ((spec_GoodFrac.f k a1_0 a1_1).bind fun t104=>(some t104)) else (some false))
set_option maxHeartbeats 8000000 in
set_option maxRecDepth 100000 in
theorem spec_l1Both.calls (k:Nat) (a0_0:Int) (a0_1:Int) (a1_0:Int) (a1_1:Int) (r:Bool) (w:World) (h:spec_l1Both.f k a0_0 a0_1 a1_0 a1_1=some r) :
    Calls Try.prog 252 #[.agg #[.int .i64 a0_0,.int .i64 a0_1],.agg #[.int .i64 a1_0,.int .i64 a1_1]] w fun e w'=>e= .returned (.bool r)∧Below w.heap.size w w':=by
  have hu61:=Try.underlying61;have HB:=aM (Below.refl w.heap.size w);have H:((spec_GoodFrac.f k a0_0 a0_1).bind fun t103=>(if t103=true then ((spec_GoodFrac.f k a1_0 a1_1).bind fun t104=>(some t104)) else (some false)))=some r:=h;clear h;replace H:=Option.bind_eq_some_iff.mp H;obtain ⟨t103,A30,H⟩:=H;replace H:(if t103=true then ((spec_GoodFrac.f k a1_0 a1_1).bind fun t104=>(some t104)) else (some false))=some r:=H;have A3:=aM A30;clear A30;by_cases c4:t103=true
  ·subst c4;have H1:((spec_GoodFrac.f k a1_0 a1_1).bind fun t104=>(some t104))=some r:=by rw [if_pos rfl] at H;exact H
   clear H;have H:=H1;clear H1;replace H:=Option.bind_eq_some_iff.mp H;obtain ⟨t104,A50,H⟩:=H;replace H:(some t104)=some r:=H;have A5:=aM A50;clear A50;obtain rfl:=Option.some.inj H;go_enter Try.func252,Try.ntmps252;go_wp2_with (first|((with_reducible refine Qt (N:=2) rfl ?_);refine Qu ?hg (N:=2) ?hd (cs:=#[.int .i64 a0_0,.int .i64 a0_1]) (t:=61) ?hr ?_;(case hd=>rfl);(case hg=>rfl);(case hr=>first|(go_simp;done)|(go_simp;rfl));intro gb101 hg w6 hbox hb;have n0_:=aM (Qi (by repeat (first|(with_reducible first|exact HB.out|apply Qc|apply Qa|apply Qb)|exact HB.out)) hb);have n1_:=aM (hbox);have n2_:=aM ((by rw [hg];exact (Qj (by repeat (first|(with_reducible first|exact HB.out|apply Qc|apply Qa|apply Qb)|exact HB.out))):w.heap.size≤gb101));have n3_:=aM ((by rw [hg];exact (Qj (by repeat (first|(with_reducible first|exact HB.out|apply Qc|apply Qa|apply Qb)|exact HB.out))):w.heap.size≤gb101));clear HB;have HB:=n0_;have BK101:=n1_;have GW101:=n2_;have GE101:=n3_;clear n0_ n1_ n2_ n3_;clear hb hbox hg)|((with_reducible refine Qt (N:=3) rfl ?_);refine Qu ?hg (N:=3) ?hd (cs:=#[.int .i64 a1_0,.int .i64 a1_1]) (t:=61) ?hr ?_;(case hd=>rfl);(case hg=>rfl);(case hr=>first|(go_simp;done)|(go_simp;rfl));intro gb102 hg w7 hbox hb;have n0_:=aM (Qn (g:=gb101) (o:= .cells #[.int .i64 a0_0,.int .i64 a0_1] 61 (0,0)) (by (with_reducible repeat (first|apply Qe|apply Qg|apply Qd));exact BK101.out) hb);have n1_:=aM (Qi (by repeat (first|(with_reducible first|exact HB.out|apply Qc|apply Qa|apply Qb|refine Qf ?_ GE101.out)|exact HB.out)) hb);have n2_:=aM (hbox);have n3_:=aM ((by rw [hg];exact (Qj (by repeat (first|(with_reducible first|exact HB.out|apply Qc|apply Qa|apply Qb|refine Qf ?_ GE101.out)|exact HB.out))):w.heap.size≤gb102));have n4_:=aM ((by rw [hg];exact (Qj (by repeat (first|(with_reducible first|exact HB.out|apply Qc|apply Qa|apply Qb|refine Qf ?_ GE101.out)|exact HB.out))):w.heap.size≤gb102));have n5_:=aM ((by rw [hg];exact Nat.ne_of_lt (blk_lt (g:=gb101) (o:= .cells #[.int .i64 a0_0,.int .i64 a0_1] 61 (0,0)) (by (with_reducible repeat (first|apply Qe|apply Qg|apply Qd));exact BK101.out)):gb101≠gb102));have n6_:=aM ((by rw [hg];exact Nat.ne_of_gt (blk_lt (g:=gb101) (o:= .cells #[.int .i64 a0_0,.int .i64 a0_1] 61 (0,0)) (by (with_reducible repeat (first|apply Qe|apply Qg|apply Qd));exact BK101.out)):gb102≠gb101));clear BK101;clear HB;have BK101:=n0_;have HB:=n1_;have BK102:=n2_;have GW102:=n3_;have GE102:=n4_;have NB101_102:=n5_;have NB102_101:=n6_;clear n0_ n1_ n2_ n3_ n4_ n5_ n6_;clear hb hbox hg;have hnb8:=NB101_102.out;have hnc8:=NB102_101.out;have hcz9_0:w7.cell? ⟨gb101,0,none⟩=some (.int .i64 a0_0):=(Qk BK101.out 0).trans rfl;have hcz9_1:w7.cell? ⟨gb101,1,none⟩=some (.int .i64 a0_1):=(Qk BK101.out 1).trans rfl;have hfz9_0:=Qh BK101.out 0;have hfz9_1:=Qh BK101.out 1)|((with_reducible refine Qo (f:=173) rfl ?_);refine goesL_ (some 6) rfl rfl Try.func173 (by kernel_rfl) rfl #[.agg #[.int .i64 a0_0,.int .i64 a0_1]] rfl (by (try simp only [aD,aE,aF]);first|done|rfl|(simp only [aG,aH];rfl)) ?_;(with_reducible refine (spec_GoodFrac.calls k a0_0 a0_1 true _ A3.out).mono ?_);rintro e w10 ⟨rfl,hb⟩;refine ⟨_,rfl,?_⟩;have n0_:=aM (Qn (g:=gb101) (o:= .cells #[.int .i64 a0_0,.int .i64 a0_1] 61 (0,0)) (by (with_reducible repeat (first|apply Qe|apply Qg|apply Qd));exact BK101.out) hb);have n1_:=aM (Qn (g:=gb102) (o:= .cells #[.int .i64 a1_0,.int .i64 a1_1] 61 (0,0)) (by (with_reducible repeat (first|apply Qe|apply Qg|apply Qd));exact BK102.out) hb);have n2_:=aM (Qi (by repeat (first|(with_reducible first|exact HB.out|apply Qc|apply Qa|apply Qb|refine Qf ?_ GE101.out|refine Qf ?_ GE102.out)|exact HB.out)) hb);clear BK101;clear BK102;clear HB;have BK101:=n0_;have BK102:=n1_;have HB:=n2_;clear n0_ n1_ n2_;(try clear hb);(try clear hb2);(try clear hk);(try clear hi);have hcz11_0:w10.cell? ⟨gb102,0,none⟩=some (.int .i64 a1_0):=(Qk BK102.out 0).trans rfl;have hcz11_1:w10.cell? ⟨gb102,1,none⟩=some (.int .i64 a1_1):=(Qk BK102.out 1).trans rfl;have hfz11_0:=Qh BK102.out 0;have hfz11_1:=Qh BK102.out 1)|(go_at_call 173;(with_reducible refine (spec_GoodFrac.calls k a1_0 a1_1 t104 _ A5.out).mono ?_);rintro e w12 ⟨rfl,hb⟩;have n0_:=aM (Qn (g:=gb101) (o:= .cells #[.int .i64 a0_0,.int .i64 a0_1] 61 (0,0)) (by (with_reducible repeat (first|apply Qe|apply Qg|apply Qd));exact BK101.out) hb);have n1_:=aM (Qn (g:=gb102) (o:= .cells #[.int .i64 a1_0,.int .i64 a1_1] 61 (0,0)) (by (with_reducible repeat (first|apply Qe|apply Qg|apply Qd));exact BK102.out) hb);have n2_:=aM (Qi (by repeat (first|(with_reducible first|exact HB.out|apply Qc|apply Qa|apply Qb|refine Qf ?_ GE101.out|refine Qf ?_ GE102.out)|exact HB.out)) hb);clear BK101;clear BK102;clear HB;have BK101:=n0_;have BK102:=n1_;have HB:=n2_;clear n0_ n1_ n2_;(try clear hb);(try clear hb2);(try clear hk);(try clear hi)))
   go_ret
   exact ⟨by first|rfl|(simp [errW_none,errW_some] <;> rfl)|(simp [*,errW_none,errW_some] <;> rfl),by repeat (first|(with_reducible first|exact HB.out|apply Qc|apply Qa|apply Qb|refine Qf ?_ GE101.out|refine Qf ?_ GE102.out)|exact HB.out)⟩
  ·replace c4:=Bool.eq_false_iff.mpr c4;subst c4;have H1:(some false)=some r:=by rw [if_neg (show ¬ (false=true) by decide)] at H;exact H
   clear H;have H:=H1;clear H1;obtain rfl:=Option.some.inj H;go_enter Try.func252,Try.ntmps252;go_wp2_with (first|((with_reducible refine Qt (N:=2) rfl ?_);refine Qu ?hg (N:=2) ?hd (cs:=#[.int .i64 a0_0,.int .i64 a0_1]) (t:=61) ?hr ?_;(case hd=>rfl);(case hg=>rfl);(case hr=>first|(go_simp;done)|(go_simp;rfl));intro gb101 hg w13 hbox hb;have n0_:=aM (Qi (by repeat (first|(with_reducible first|exact HB.out|apply Qc|apply Qa|apply Qb)|exact HB.out)) hb);have n1_:=aM (hbox);have n2_:=aM ((by rw [hg];exact (Qj (by repeat (first|(with_reducible first|exact HB.out|apply Qc|apply Qa|apply Qb)|exact HB.out))):w.heap.size≤gb101));have n3_:=aM ((by rw [hg];exact (Qj (by repeat (first|(with_reducible first|exact HB.out|apply Qc|apply Qa|apply Qb)|exact HB.out))):w.heap.size≤gb101));clear HB;have HB:=n0_;have BK101:=n1_;have GW101:=n2_;have GE101:=n3_;clear n0_ n1_ n2_ n3_;clear hb hbox hg)|((with_reducible refine Qt (N:=3) rfl ?_);refine Qu ?hg (N:=3) ?hd (cs:=#[.int .i64 a1_0,.int .i64 a1_1]) (t:=61) ?hr ?_;(case hd=>rfl);(case hg=>rfl);(case hr=>first|(go_simp;done)|(go_simp;rfl));intro gb102 hg w14 hbox hb;have n0_:=aM (Qn (g:=gb101) (o:= .cells #[.int .i64 a0_0,.int .i64 a0_1] 61 (0,0)) (by (with_reducible repeat (first|apply Qe|apply Qg|apply Qd));exact BK101.out) hb);have n1_:=aM (Qi (by repeat (first|(with_reducible first|exact HB.out|apply Qc|apply Qa|apply Qb|refine Qf ?_ GE101.out)|exact HB.out)) hb);have n2_:=aM (hbox);have n3_:=aM ((by rw [hg];exact (Qj (by repeat (first|(with_reducible first|exact HB.out|apply Qc|apply Qa|apply Qb|refine Qf ?_ GE101.out)|exact HB.out))):w.heap.size≤gb102));have n4_:=aM ((by rw [hg];exact (Qj (by repeat (first|(with_reducible first|exact HB.out|apply Qc|apply Qa|apply Qb|refine Qf ?_ GE101.out)|exact HB.out))):w.heap.size≤gb102));have n5_:=aM ((by rw [hg];exact Nat.ne_of_lt (blk_lt (g:=gb101) (o:= .cells #[.int .i64 a0_0,.int .i64 a0_1] 61 (0,0)) (by (with_reducible repeat (first|apply Qe|apply Qg|apply Qd));exact BK101.out)):gb101≠gb102));have n6_:=aM ((by rw [hg];exact Nat.ne_of_gt (blk_lt (g:=gb101) (o:= .cells #[.int .i64 a0_0,.int .i64 a0_1] 61 (0,0)) (by (with_reducible repeat (first|apply Qe|apply Qg|apply Qd));exact BK101.out)):gb102≠gb101));clear BK101;clear HB;have BK101:=n0_;have HB:=n1_;have BK102:=n2_;have GW102:=n3_;have GE102:=n4_;have NB101_102:=n5_;have NB102_101:=n6_;clear n0_ n1_ n2_ n3_ n4_ n5_ n6_;clear hb hbox hg;have hnb15:=NB101_102.out;have hnc15:=NB102_101.out;have hcz16_0:w14.cell? ⟨gb101,0,none⟩=some (.int .i64 a0_0):=(Qk BK101.out 0).trans rfl;have hcz16_1:w14.cell? ⟨gb101,1,none⟩=some (.int .i64 a0_1):=(Qk BK101.out 1).trans rfl;have hfz16_0:=Qh BK101.out 0;have hfz16_1:=Qh BK101.out 1)|((with_reducible refine Qo (f:=173) rfl ?_);refine goesL_ (some 6) rfl rfl Try.func173 (by kernel_rfl) rfl #[.agg #[.int .i64 a0_0,.int .i64 a0_1]] rfl (by (try simp only [aD,aE,aF]);first|done|rfl|(simp only [aG,aH];rfl)) ?_;(with_reducible refine (spec_GoodFrac.calls k a0_0 a0_1 false _ A3.out).mono ?_);rintro e w17 ⟨rfl,hb⟩;refine ⟨_,rfl,?_⟩;have n0_:=aM (Qn (g:=gb101) (o:= .cells #[.int .i64 a0_0,.int .i64 a0_1] 61 (0,0)) (by (with_reducible repeat (first|apply Qe|apply Qg|apply Qd));exact BK101.out) hb);have n1_:=aM (Qn (g:=gb102) (o:= .cells #[.int .i64 a1_0,.int .i64 a1_1] 61 (0,0)) (by (with_reducible repeat (first|apply Qe|apply Qg|apply Qd));exact BK102.out) hb);have n2_:=aM (Qi (by repeat (first|(with_reducible first|exact HB.out|apply Qc|apply Qa|apply Qb|refine Qf ?_ GE101.out|refine Qf ?_ GE102.out)|exact HB.out)) hb);clear BK101;clear BK102;clear HB;have BK101:=n0_;have BK102:=n1_;have HB:=n2_;clear n0_ n1_ n2_;(try clear hb);(try clear hb2);(try clear hk);(try clear hi)))
   go_ret
   exact ⟨by first|rfl|(simp [errW_none,errW_some] <;> rfl)|(simp [*,errW_none,errW_some] <;> rfl),by repeat (first|(with_reducible first|exact HB.out|apply Qc|apply Qa|apply Qb|refine Qf ?_ GE101.out|refine Qf ?_ GE102.out)|exact HB.out)⟩

def spec_l1Fits.f (k:Nat) (a0_0:Int) (a0_1:Int):Option (Int×Int×Bool):=(spec_GoodFrac.f k a0_0 a0_1).bind fun t103=>(if t103=true then (some (a0_0,a0_1,true)) else (some (0,0,false)))
set_option maxHeartbeats 8000000 in
set_option maxRecDepth 100000 in
theorem spec_l1Fits.calls (k:Nat) (a0_0:Int) (a0_1:Int) (r1:Int) (r2:Int) (r3:Bool) (w:World) (h:spec_l1Fits.f k a0_0 a0_1=some (r1,r2,r3)) :
    Calls Try.prog 272 #[.agg #[.int .i64 a0_0,.int .i64 a0_1]] w fun e w'=>e= .returned (.tuple #[.agg #[.int .i64 r1,.int .i64 r2],.bool r3])∧Below w.heap.size w w':=by
  have hu61:=Try.underlying61;have HB:=aM (Below.refl w.heap.size w);have H:((spec_GoodFrac.f k a0_0 a0_1).bind fun t103=>(if t103=true then (some (a0_0,a0_1,true)) else (some (0,0,false))))=some (r1,r2,r3):=h;clear h;replace H:=Option.bind_eq_some_iff.mp H;obtain ⟨t103,A20,H⟩:=H;replace H:(if t103=true then (some (a0_0,a0_1,true)) else (some (0,0,false)))=some (r1,r2,r3):=H;have A2:=aM A20;clear A20;by_cases c3:t103=true
  ·subst c3;have H1:(some (a0_0,a0_1,true))=some (r1,r2,r3):=by rw [if_pos rfl] at H;exact H
   clear H;have H:=H1;clear H1;simp only [Option.some.injEq,Prod.mk.injEq] at H;obtain ⟨rfl,rfl,rfl⟩:=H;go_enter Try.func272,Try.ntmps272;go_wp2_with (first|((with_reducible refine Qt (N:=1) rfl ?_);refine Qu ?hg (N:=1) ?hd (cs:=#[.int .i64 a0_0,.int .i64 a0_1]) (t:=61) ?hr ?_;(case hd=>rfl);(case hg=>rfl);(case hr=>first|(go_simp;done)|(go_simp;rfl));intro gb101 hg w4 hbox hb;have n0_:=aM (Qi (by repeat (first|(with_reducible first|exact HB.out|apply Qc|apply Qa|apply Qb)|exact HB.out)) hb);have n1_:=aM (hbox);have n2_:=aM ((by rw [hg];exact (Qj (by repeat (first|(with_reducible first|exact HB.out|apply Qc|apply Qa|apply Qb)|exact HB.out))):w.heap.size≤gb101));have n3_:=aM ((by rw [hg];exact (Qj (by repeat (first|(with_reducible first|exact HB.out|apply Qc|apply Qa|apply Qb)|exact HB.out))):w.heap.size≤gb101));clear HB;have HB:=n0_;have BK101:=n1_;have GW101:=n2_;have GE101:=n3_;clear n0_ n1_ n2_ n3_;clear hb hbox hg)|((with_reducible refine Qt (N:=2) rfl ?_);refine Qu ?hg (N:=2) ?hd (cs:=#[.int .i64 0,.int .i64 0]) (t:=61) ?hr ?_;(case hd=>rfl);(case hg=>rfl);(case hr=>first|(go_simp;done)|(go_simp;rfl));intro gb102 hg w5 hbox hb;have n0_:=aM (Qn (g:=gb101) (o:= .cells #[.int .i64 a0_0,.int .i64 a0_1] 61 (0,0)) (by (with_reducible repeat (first|apply Qe|apply Qg|apply Qd));exact BK101.out) hb);have n1_:=aM (Qi (by repeat (first|(with_reducible first|exact HB.out|apply Qc|apply Qa|apply Qb|refine Qf ?_ GE101.out)|exact HB.out)) hb);have n2_:=aM (hbox);have n3_:=aM ((by rw [hg];exact (Qj (by repeat (first|(with_reducible first|exact HB.out|apply Qc|apply Qa|apply Qb|refine Qf ?_ GE101.out)|exact HB.out))):w.heap.size≤gb102));have n4_:=aM ((by rw [hg];exact (Qj (by repeat (first|(with_reducible first|exact HB.out|apply Qc|apply Qa|apply Qb|refine Qf ?_ GE101.out)|exact HB.out))):w.heap.size≤gb102));have n5_:=aM ((by rw [hg];exact Nat.ne_of_lt (blk_lt (g:=gb101) (o:= .cells #[.int .i64 a0_0,.int .i64 a0_1] 61 (0,0)) (by (with_reducible repeat (first|apply Qe|apply Qg|apply Qd));exact BK101.out)):gb101≠gb102));have n6_:=aM ((by rw [hg];exact Nat.ne_of_gt (blk_lt (g:=gb101) (o:= .cells #[.int .i64 a0_0,.int .i64 a0_1] 61 (0,0)) (by (with_reducible repeat (first|apply Qe|apply Qg|apply Qd));exact BK101.out)):gb102≠gb101));clear BK101;clear HB;have BK101:=n0_;have HB:=n1_;have BK102:=n2_;have GW102:=n3_;have GE102:=n4_;have NB101_102:=n5_;have NB102_101:=n6_;clear n0_ n1_ n2_ n3_ n4_ n5_ n6_;clear hb hbox hg;have hnb6:=NB101_102.out;have hnc6:=NB102_101.out;have hcz7_0:w5.cell? ⟨gb101,0,none⟩=some (.int .i64 a0_0):=(Qk BK101.out 0).trans rfl;have hcz7_1:w5.cell? ⟨gb101,1,none⟩=some (.int .i64 a0_1):=(Qk BK101.out 1).trans rfl;have hfz7_0:=Qh BK101.out 0;have hfz7_1:=Qh BK101.out 1)|((with_reducible refine Qo (f:=173) rfl ?_);refine goesL_ (some 5) rfl rfl Try.func173 (by kernel_rfl) rfl #[.agg #[.int .i64 a0_0,.int .i64 a0_1]] rfl (by (try simp only [aD,aE,aF]);first|done|rfl|(simp only [aG,aH];rfl)) ?_;(with_reducible refine (spec_GoodFrac.calls k a0_0 a0_1 true _ A2.out).mono ?_);rintro e w8 ⟨rfl,hb⟩;refine ⟨_,rfl,?_⟩;have n0_:=aM (Qn (g:=gb101) (o:= .cells #[.int .i64 a0_0,.int .i64 a0_1] 61 (0,0)) (by (with_reducible repeat (first|apply Qe|apply Qg|apply Qd));exact BK101.out) hb);have n1_:=aM (Qn (g:=gb102) (o:= .cells #[.int .i64 0,.int .i64 0] 61 (0,0)) (by (with_reducible repeat (first|apply Qe|apply Qg|apply Qd));exact BK102.out) hb);have n2_:=aM (Qi (by repeat (first|(with_reducible first|exact HB.out|apply Qc|apply Qa|apply Qb|refine Qf ?_ GE101.out|refine Qf ?_ GE102.out)|exact HB.out)) hb);clear BK101;clear BK102;clear HB;have BK101:=n0_;have BK102:=n1_;have HB:=n2_;clear n0_ n1_ n2_;(try clear hb);(try clear hb2);(try clear hk);(try clear hi);have hcz9_0:w8.cell? ⟨gb101,0,none⟩=some (.int .i64 a0_0):=(Qk BK101.out 0).trans rfl;have hcz9_1:w8.cell? ⟨gb101,1,none⟩=some (.int .i64 a0_1):=(Qk BK101.out 1).trans rfl;have hfz9_0:=Qh BK101.out 0;have hfz9_1:=Qh BK101.out 1;have hcz10_0:w8.cell? ⟨gb102,0,none⟩=some (.int .i64 0):=(Qk BK102.out 0).trans rfl;have hcz10_1:w8.cell? ⟨gb102,1,none⟩=some (.int .i64 0):=(Qk BK102.out 1).trans rfl;have hfz10_0:=Qh BK102.out 0;have hfz10_1:=Qh BK102.out 1))
   refine bodyPost_ret (results_ct rfl _ _ gb102 61 #[.int .i64 a0_0,.int .i64 a0_1] (0,0) _ rfl (by (with_reducible repeat (first|apply Qe|apply Qg|apply Qd));refine Qv (cs:=#[.int .i64 a0_0,.int .i64 0]) ?_ 1 _ rfl;(with_reducible repeat (first|apply Qe|apply Qg|apply Qd));refine Qv (cs:=#[.int .i64 0,.int .i64 0]) ?_ 0 _ rfl;(with_reducible repeat (first|apply Qe|apply Qg|apply Qd));exact BK102.out) Try.underlying61 rfl (by kernel_rfl)) rfl ?_;exact ⟨by first|rfl|(simp [errW_none,errW_some] <;> rfl)|(simp [*,errW_none,errW_some] <;> rfl),by repeat (first|(with_reducible first|exact HB.out|apply Qc|apply Qa|apply Qb|refine Qf ?_ GE101.out|refine Qf ?_ GE102.out)|exact HB.out)⟩
  ·replace c3:=Bool.eq_false_iff.mpr c3;subst c3;have H1:(some (0,0,false))=some (r1,r2,r3):=by rw [if_neg (show ¬ (false=true) by decide)] at H;exact H
   clear H;have H:=H1;clear H1;simp only [Option.some.injEq,Prod.mk.injEq] at H;obtain ⟨rfl,rfl,rfl⟩:=H;go_enter Try.func272,Try.ntmps272;go_wp2_with (first|((with_reducible refine Qt (N:=1) rfl ?_);refine Qu ?hg (N:=1) ?hd (cs:=#[.int .i64 a0_0,.int .i64 a0_1]) (t:=61) ?hr ?_;(case hd=>rfl);(case hg=>rfl);(case hr=>first|(go_simp;done)|(go_simp;rfl));intro gb101 hg w11 hbox hb;have n0_:=aM (Qi (by repeat (first|(with_reducible first|exact HB.out|apply Qc|apply Qa|apply Qb)|exact HB.out)) hb);have n1_:=aM (hbox);have n2_:=aM ((by rw [hg];exact (Qj (by repeat (first|(with_reducible first|exact HB.out|apply Qc|apply Qa|apply Qb)|exact HB.out))):w.heap.size≤gb101));have n3_:=aM ((by rw [hg];exact (Qj (by repeat (first|(with_reducible first|exact HB.out|apply Qc|apply Qa|apply Qb)|exact HB.out))):w.heap.size≤gb101));clear HB;have HB:=n0_;have BK101:=n1_;have GW101:=n2_;have GE101:=n3_;clear n0_ n1_ n2_ n3_;clear hb hbox hg)|((with_reducible refine Qt (N:=2) rfl ?_);refine Qu ?hg (N:=2) ?hd (cs:=#[.int .i64 0,.int .i64 0]) (t:=61) ?hr ?_;(case hd=>rfl);(case hg=>rfl);(case hr=>first|(go_simp;done)|(go_simp;rfl));intro gb102 hg w12 hbox hb;have n0_:=aM (Qn (g:=gb101) (o:= .cells #[.int .i64 a0_0,.int .i64 a0_1] 61 (0,0)) (by (with_reducible repeat (first|apply Qe|apply Qg|apply Qd));exact BK101.out) hb);have n1_:=aM (Qi (by repeat (first|(with_reducible first|exact HB.out|apply Qc|apply Qa|apply Qb|refine Qf ?_ GE101.out)|exact HB.out)) hb);have n2_:=aM (hbox);have n3_:=aM ((by rw [hg];exact (Qj (by repeat (first|(with_reducible first|exact HB.out|apply Qc|apply Qa|apply Qb|refine Qf ?_ GE101.out)|exact HB.out))):w.heap.size≤gb102));have n4_:=aM ((by rw [hg];exact (Qj (by repeat (first|(with_reducible first|exact HB.out|apply Qc|apply Qa|apply Qb|refine Qf ?_ GE101.out)|exact HB.out))):w.heap.size≤gb102));have n5_:=aM ((by rw [hg];exact Nat.ne_of_lt (blk_lt (g:=gb101) (o:= .cells #[.int .i64 a0_0,.int .i64 a0_1] 61 (0,0)) (by (with_reducible repeat (first|apply Qe|apply Qg|apply Qd));exact BK101.out)):gb101≠gb102));have n6_:=aM ((by rw [hg];exact Nat.ne_of_gt (blk_lt (g:=gb101) (o:= .cells #[.int .i64 a0_0,.int .i64 a0_1] 61 (0,0)) (by (with_reducible repeat (first|apply Qe|apply Qg|apply Qd));exact BK101.out)):gb102≠gb101));clear BK101;clear HB;have BK101:=n0_;have HB:=n1_;have BK102:=n2_;have GW102:=n3_;have GE102:=n4_;have NB101_102:=n5_;have NB102_101:=n6_;clear n0_ n1_ n2_ n3_ n4_ n5_ n6_;clear hb hbox hg;have hnb13:=NB101_102.out;have hnc13:=NB102_101.out;have hcz14_0:w12.cell? ⟨gb101,0,none⟩=some (.int .i64 a0_0):=(Qk BK101.out 0).trans rfl;have hcz14_1:w12.cell? ⟨gb101,1,none⟩=some (.int .i64 a0_1):=(Qk BK101.out 1).trans rfl;have hfz14_0:=Qh BK101.out 0;have hfz14_1:=Qh BK101.out 1)|((with_reducible refine Qo (f:=173) rfl ?_);refine goesL_ (some 5) rfl rfl Try.func173 (by kernel_rfl) rfl #[.agg #[.int .i64 a0_0,.int .i64 a0_1]] rfl (by (try simp only [aD,aE,aF]);first|done|rfl|(simp only [aG,aH];rfl)) ?_;(with_reducible refine (spec_GoodFrac.calls k a0_0 a0_1 false _ A2.out).mono ?_);rintro e w15 ⟨rfl,hb⟩;refine ⟨_,rfl,?_⟩;have n0_:=aM (Qn (g:=gb101) (o:= .cells #[.int .i64 a0_0,.int .i64 a0_1] 61 (0,0)) (by (with_reducible repeat (first|apply Qe|apply Qg|apply Qd));exact BK101.out) hb);have n1_:=aM (Qn (g:=gb102) (o:= .cells #[.int .i64 0,.int .i64 0] 61 (0,0)) (by (with_reducible repeat (first|apply Qe|apply Qg|apply Qd));exact BK102.out) hb);have n2_:=aM (Qi (by repeat (first|(with_reducible first|exact HB.out|apply Qc|apply Qa|apply Qb|refine Qf ?_ GE101.out|refine Qf ?_ GE102.out)|exact HB.out)) hb);clear BK101;clear BK102;clear HB;have BK101:=n0_;have BK102:=n1_;have HB:=n2_;clear n0_ n1_ n2_;(try clear hb);(try clear hb2);(try clear hk);(try clear hi);have hcz16_0:w15.cell? ⟨gb102,0,none⟩=some (.int .i64 0):=(Qk BK102.out 0).trans rfl;have hcz16_1:w15.cell? ⟨gb102,1,none⟩=some (.int .i64 0):=(Qk BK102.out 1).trans rfl;have hfz16_0:=Qh BK102.out 0;have hfz16_1:=Qh BK102.out 1))
   refine bodyPost_ret (results_ct rfl _ _ gb102 61 #[.int .i64 0,.int .i64 0] (0,0) _ rfl (by (with_reducible repeat (first|apply Qe|apply Qg|apply Qd));refine Qv (cs:=#[.int .i64 0,.int .i64 0]) ?_ 1 _ rfl;(with_reducible repeat (first|apply Qe|apply Qg|apply Qd));refine Qv (cs:=#[.int .i64 0,.int .i64 0]) ?_ 0 _ rfl;(with_reducible repeat (first|apply Qe|apply Qg|apply Qd));exact BK102.out) Try.underlying61 rfl (by kernel_rfl)) rfl ?_;exact ⟨by first|rfl|(simp [errW_none,errW_some] <;> rfl)|(simp [*,errW_none,errW_some] <;> rfl),by repeat (first|(with_reducible first|exact HB.out|apply Qc|apply Qa|apply Qb|refine Qf ?_ GE101.out|refine Qf ?_ GE102.out)|exact HB.out)⟩

def spec_l1Add.f (k:Nat) (a0_0:Int) (a0_1:Int) (a1_0:Int) (a1_1:Int):Option (Int×Int):=(spec_l1Make.f k (wrap64 ((wrap64 (a0_0 * a1_1))+(wrap64 (a1_0 * a0_1)))) (wrap64 (a0_1 * a1_1))).bind fun bt104=>(some (bt104.1,bt104.2))
set_option maxHeartbeats 8000000 in
set_option maxRecDepth 100000 in
theorem spec_l1Add.calls (k:Nat) (a0_0:Int) (a0_1:Int) (a1_0:Int) (a1_1:Int) (r1:Int) (r2:Int) (w:World) (h:spec_l1Add.f k a0_0 a0_1 a1_0 a1_1=some (r1,r2)) :
    Calls Try.prog 273 #[.agg #[.int .i64 a0_0,.int .i64 a0_1],.agg #[.int .i64 a1_0,.int .i64 a1_1]] w fun e w'=>e= .returned (.agg #[.int .i64 r1,.int .i64 r2])∧Below w.heap.size w w':=by
  have hu61:=Try.underlying61;have HB:=aM (Below.refl w.heap.size w);have H:((spec_l1Make.f k (wrap64 ((wrap64 (a0_0 * a1_1))+(wrap64 (a1_0 * a0_1)))) (wrap64 (a0_1 * a1_1))).bind fun bt104=>(some (bt104.1,bt104.2)))=some (r1,r2):=h;clear h;replace H:=Option.bind_eq_some_iff.mp H;obtain ⟨⟨t104,t105⟩,A30,H⟩:=H;replace H:(some (t104,t105))=some (r1,r2):=H;have A3:=aM A30;clear A30;simp only [Option.some.injEq,Prod.mk.injEq] at H;obtain ⟨rfl,rfl⟩:=H;go_enter Try.func273,Try.ntmps273;go_wp2_with (first|((with_reducible refine Qt (N:=2) rfl ?_);refine Qu ?hg (N:=2) ?hd (cs:=#[.int .i64 a0_0,.int .i64 a0_1]) (t:=61) ?hr ?_;(case hd=>rfl);(case hg=>rfl);(case hr=>first|(go_simp;done)|(go_simp;rfl));intro gb101 hg w4 hbox hb;have n0_:=aM (Qi (by repeat (first|(with_reducible first|exact HB.out|apply Qc|apply Qa|apply Qb)|exact HB.out)) hb);have n1_:=aM (hbox);have n2_:=aM ((by rw [hg];exact (Qj (by repeat (first|(with_reducible first|exact HB.out|apply Qc|apply Qa|apply Qb)|exact HB.out))):w.heap.size≤gb101));have n3_:=aM ((by rw [hg];exact (Qj (by repeat (first|(with_reducible first|exact HB.out|apply Qc|apply Qa|apply Qb)|exact HB.out))):w.heap.size≤gb101));clear HB;have HB:=n0_;have BK101:=n1_;have GW101:=n2_;have GE101:=n3_;clear n0_ n1_ n2_ n3_;clear hb hbox hg)|((with_reducible refine Qt (N:=3) rfl ?_);refine Qu ?hg (N:=3) ?hd (cs:=#[.int .i64 a1_0,.int .i64 a1_1]) (t:=61) ?hr ?_;(case hd=>rfl);(case hg=>rfl);(case hr=>first|(go_simp;done)|(go_simp;rfl));intro gb102 hg w5 hbox hb;have n0_:=aM (Qn (g:=gb101) (o:= .cells #[.int .i64 a0_0,.int .i64 a0_1] 61 (0,0)) (by (with_reducible repeat (first|apply Qe|apply Qg|apply Qd));exact BK101.out) hb);have n1_:=aM (Qi (by repeat (first|(with_reducible first|exact HB.out|apply Qc|apply Qa|apply Qb|refine Qf ?_ GE101.out)|exact HB.out)) hb);have n2_:=aM (hbox);have n3_:=aM ((by rw [hg];exact (Qj (by repeat (first|(with_reducible first|exact HB.out|apply Qc|apply Qa|apply Qb|refine Qf ?_ GE101.out)|exact HB.out))):w.heap.size≤gb102));have n4_:=aM ((by rw [hg];exact (Qj (by repeat (first|(with_reducible first|exact HB.out|apply Qc|apply Qa|apply Qb|refine Qf ?_ GE101.out)|exact HB.out))):w.heap.size≤gb102));have n5_:=aM ((by rw [hg];exact Nat.ne_of_lt (blk_lt (g:=gb101) (o:= .cells #[.int .i64 a0_0,.int .i64 a0_1] 61 (0,0)) (by (with_reducible repeat (first|apply Qe|apply Qg|apply Qd));exact BK101.out)):gb101≠gb102));have n6_:=aM ((by rw [hg];exact Nat.ne_of_gt (blk_lt (g:=gb101) (o:= .cells #[.int .i64 a0_0,.int .i64 a0_1] 61 (0,0)) (by (with_reducible repeat (first|apply Qe|apply Qg|apply Qd));exact BK101.out)):gb102≠gb101));clear BK101;clear HB;have BK101:=n0_;have HB:=n1_;have BK102:=n2_;have GW102:=n3_;have GE102:=n4_;have NB101_102:=n5_;have NB102_101:=n6_;clear n0_ n1_ n2_ n3_ n4_ n5_ n6_;clear hb hbox hg)|((with_reducible refine Qt (N:=4) rfl ?_);refine Qu ?hg (N:=4) ?hd (cs:=#[.int .i64 0,.int .i64 0]) (t:=61) ?hr ?_;(case hd=>rfl);(case hg=>rfl);(case hr=>first|(go_simp;done)|(go_simp;rfl));intro gb103 hg w6 hbox hb;have n0_:=aM (Qn (g:=gb101) (o:= .cells #[.int .i64 a0_0,.int .i64 a0_1] 61 (0,0)) (by (with_reducible repeat (first|apply Qe|apply Qg|apply Qd));exact BK101.out) hb);have n1_:=aM (Qn (g:=gb102) (o:= .cells #[.int .i64 a1_0,.int .i64 a1_1] 61 (0,0)) (by (with_reducible repeat (first|apply Qe|apply Qg|apply Qd));exact BK102.out) hb);have n2_:=aM (Qi (by repeat (first|(with_reducible first|exact HB.out|apply Qc|apply Qa|apply Qb|refine Qf ?_ GE101.out|refine Qf ?_ GE102.out)|exact HB.out)) hb);have n3_:=aM (hbox);have n4_:=aM ((by rw [hg];exact (Qj (by repeat (first|(with_reducible first|exact HB.out|apply Qc|apply Qa|apply Qb|refine Qf ?_ GE101.out|refine Qf ?_ GE102.out)|exact HB.out))):w.heap.size≤gb103));have n5_:=aM ((by rw [hg];exact (Qj (by repeat (first|(with_reducible first|exact HB.out|apply Qc|apply Qa|apply Qb|refine Qf ?_ GE101.out|refine Qf ?_ GE102.out)|exact HB.out))):w.heap.size≤gb103));have n6_:=aM ((by rw [hg];exact Nat.ne_of_lt (blk_lt (g:=gb101) (o:= .cells #[.int .i64 a0_0,.int .i64 a0_1] 61 (0,0)) (by (with_reducible repeat (first|apply Qe|apply Qg|apply Qd));exact BK101.out)):gb101≠gb103));have n7_:=aM ((by rw [hg];exact Nat.ne_of_gt (blk_lt (g:=gb101) (o:= .cells #[.int .i64 a0_0,.int .i64 a0_1] 61 (0,0)) (by (with_reducible repeat (first|apply Qe|apply Qg|apply Qd));exact BK101.out)):gb103≠gb101));have n8_:=aM ((by rw [hg];exact Nat.ne_of_lt (blk_lt (g:=gb102) (o:= .cells #[.int .i64 a1_0,.int .i64 a1_1] 61 (0,0)) (by (with_reducible repeat (first|apply Qe|apply Qg|apply Qd));exact BK102.out)):gb102≠gb103));have n9_:=aM ((by rw [hg];exact Nat.ne_of_gt (blk_lt (g:=gb102) (o:= .cells #[.int .i64 a1_0,.int .i64 a1_1] 61 (0,0)) (by (with_reducible repeat (first|apply Qe|apply Qg|apply Qd));exact BK102.out)):gb103≠gb102));clear BK101;clear BK102;clear HB;have BK101:=n0_;have BK102:=n1_;have HB:=n2_;have BK103:=n3_;have GW103:=n4_;have GE103:=n5_;have NB101_103:=n6_;have NB103_101:=n7_;have NB102_103:=n8_;have NB103_102:=n9_;clear n0_ n1_ n2_ n3_ n4_ n5_ n6_ n7_ n8_ n9_;clear hb hbox hg;have hnb7:=NB101_102.out;have hnc7:=NB102_101.out;have hnb8:=NB101_103.out;have hnc8:=NB103_101.out;have hcz9_0:w6.cell? ⟨gb101,0,none⟩=some (.int .i64 a0_0):=(Qk BK101.out 0).trans rfl;have hcz9_1:w6.cell? ⟨gb101,1,none⟩=some (.int .i64 a0_1):=(Qk BK101.out 1).trans rfl;have hfz9_0:=Qh BK101.out 0;have hfz9_1:=Qh BK101.out 1;have hnb10:=NB102_103.out;have hnc10:=NB103_102.out;have hcz11_0:w6.cell? ⟨gb102,0,none⟩=some (.int .i64 a1_0):=(Qk BK102.out 0).trans rfl;have hcz11_1:w6.cell? ⟨gb102,1,none⟩=some (.int .i64 a1_1):=(Qk BK102.out 1).trans rfl;have hfz11_0:=Qh BK102.out 0;have hfz11_1:=Qh BK102.out 1)|((with_reducible refine Qo (f:=191) rfl ?_);refine goesL_ (some 21) rfl rfl Try.func191 (by kernel_rfl) rfl #[.int .i64 (wrap64 ((wrap64 (a0_0 * a1_1))+(wrap64 (a1_0 * a0_1)))),.int .i64 (wrap64 (a0_1 * a1_1))] rfl (by (try simp only [aD,aE,aF]);first|done|rfl|(simp only [aG,aH];rfl)) ?_;(with_reducible refine (spec_l1Make.calls k (wrap64 ((wrap64 (a0_0 * a1_1))+(wrap64 (a1_0 * a0_1)))) (wrap64 (a0_1 * a1_1)) t104 t105 _ A3.out).mono ?_);rintro e w12 ⟨rfl,hb⟩;refine ⟨_,rfl,?_⟩;have n0_:=aM (Qn (g:=gb101) (o:= .cells #[.int .i64 a0_0,.int .i64 a0_1] 61 (0,0)) (by (with_reducible repeat (first|apply Qe|apply Qg|apply Qd));exact BK101.out) hb);have n1_:=aM (Qn (g:=gb102) (o:= .cells #[.int .i64 a1_0,.int .i64 a1_1] 61 (0,0)) (by (with_reducible repeat (first|apply Qe|apply Qg|apply Qd));exact BK102.out) hb);have n2_:=aM (Qn (g:=gb103) (o:= .cells #[.int .i64 0,.int .i64 0] 61 (0,0)) (by (with_reducible repeat (first|apply Qe|apply Qg|apply Qd));exact BK103.out) hb);have n3_:=aM (Qi (by repeat (first|(with_reducible first|exact HB.out|apply Qc|apply Qa|apply Qb|refine Qf ?_ GE101.out|refine Qf ?_ GE102.out|refine Qf ?_ GE103.out)|exact HB.out)) hb);clear BK101;clear BK102;clear BK103;clear HB;have BK101:=n0_;have BK102:=n1_;have BK103:=n2_;have HB:=n3_;clear n0_ n1_ n2_ n3_;(try clear hb);(try clear hb2);(try clear hk);(try clear hi);have hcz13_0:w12.cell? ⟨gb103,0,none⟩=some (.int .i64 0):=(Qk BK103.out 0).trans rfl;have hcz13_1:w12.cell? ⟨gb103,1,none⟩=some (.int .i64 0):=(Qk BK103.out 1).trans rfl;have hfz13_0:=Qh BK103.out 0;have hfz13_1:=Qh BK103.out 1))
  refine bodyPost_ret (results_cell_row rfl _ _ gb103 61 #[.int .i64 t104,.int .i64 t105] (0,0) _ rfl (by (with_reducible repeat (first|apply Qe|apply Qg|apply Qd));refine Qv (cs:=#[.int .i64 t104,.int .i64 0]) ?_ 1 _ rfl;(with_reducible repeat (first|apply Qe|apply Qg|apply Qd));refine Qv (cs:=#[.int .i64 0,.int .i64 0]) ?_ 0 _ rfl;(with_reducible repeat (first|apply Qe|apply Qg|apply Qd));exact BK103.out) Try.underlying61 rfl (by kernel_rfl)) rfl ?_;exact ⟨by first|rfl|(simp [errW_none,errW_some] <;> rfl)|(simp [*,errW_none,errW_some] <;> rfl),by repeat (first|(with_reducible first|exact HB.out|apply Qc|apply Qa|apply Qb|refine Qf ?_ GE101.out|refine Qf ?_ GE102.out|refine Qf ?_ GE103.out)|exact HB.out)⟩

def spec_AddFrac.f (k:Nat) (a0_0:Int) (a0_1:Int) (a1_0:Int) (a1_1:Int):Option (Int×Int×Bool):=(spec_l1Both.f k a0_0 a0_1 a1_0 a1_1).bind fun t104=>(if t104=true then ((spec_l1Add.f k a0_0 a0_1 a1_0 a1_1).bind fun bt105=>((spec_l1Fits.f k bt105.1 bt105.2).bind fun bt107=>(some (bt107.1,bt107.2.1,bt107.2.2)))) else (some (0,0,false)))
set_option maxHeartbeats 8000000 in
set_option maxRecDepth 100000 in
theorem spec_AddFrac.calls (k:Nat) (a0_0:Int) (a0_1:Int) (a1_0:Int) (a1_1:Int) (r1:Int) (r2:Int) (r3:Bool) (w:World) (h:spec_AddFrac.f k a0_0 a0_1 a1_0 a1_1=some (r1,r2,r3)) :
    Calls Try.prog 251 #[.agg #[.int .i64 a0_0,.int .i64 a0_1],.agg #[.int .i64 a1_0,.int .i64 a1_1]] w fun e w'=>e= .returned (.tuple #[.agg #[.int .i64 r1,.int .i64 r2],.bool r3])∧Below w.heap.size w w':=by
  have hu61:=Try.underlying61;have HB:=aM (Below.refl w.heap.size w);have H:((spec_l1Both.f k a0_0 a0_1 a1_0 a1_1).bind fun t104=>(if t104=true then ((spec_l1Add.f k a0_0 a0_1 a1_0 a1_1).bind fun bt105=>((spec_l1Fits.f k bt105.1 bt105.2).bind fun bt107=>(some (bt107.1,bt107.2.1,bt107.2.2)))) else (some (0,0,false))))=some (r1,r2,r3):=h;clear h;replace H:=Option.bind_eq_some_iff.mp H;obtain ⟨t104,A30,H⟩:=H;replace H:(if t104=true then ((spec_l1Add.f k a0_0 a0_1 a1_0 a1_1).bind fun bt105=>((spec_l1Fits.f k bt105.1 bt105.2).bind fun bt107=>(some (bt107.1,bt107.2.1,bt107.2.2)))) else (some (0,0,false)))=some (r1,r2,r3):=H;have A3:=aM A30;clear A30;by_cases c4:t104=true
  ·subst c4;have H1:((spec_l1Add.f k a0_0 a0_1 a1_0 a1_1).bind fun bt105=>((spec_l1Fits.f k bt105.1 bt105.2).bind fun bt107=>(some (bt107.1,bt107.2.1,bt107.2.2))))=some (r1,r2,r3):=by rw [if_pos rfl] at H;exact H
   clear H;have H:=H1;clear H1;replace H:=Option.bind_eq_some_iff.mp H;obtain ⟨⟨t105,t106⟩,A50,H⟩:=H;replace H:((spec_l1Fits.f k t105 t106).bind fun bt107=>(some (bt107.1,bt107.2.1,bt107.2.2)))=some (r1,r2,r3):=H;have A5:=aM A50;clear A50;replace H:=Option.bind_eq_some_iff.mp H;obtain ⟨⟨t107,t108,t109⟩,A60,H⟩:=H;replace H:(some (t107,t108,t109))=some (r1,r2,r3):=H;have A6:=aM A60;clear A60;simp only [Option.some.injEq,Prod.mk.injEq] at H;obtain ⟨rfl,rfl,rfl⟩:=H;go_enter Try.func251,Try.ntmps251;go_wp2_with (first|((with_reducible refine Qt (N:=2) rfl ?_);refine Qu ?hg (N:=2) ?hd (cs:=#[.int .i64 a0_0,.int .i64 a0_1]) (t:=61) ?hr ?_;(case hd=>rfl);(case hg=>rfl);(case hr=>first|(go_simp;done)|(go_simp;rfl));intro gb101 hg w7 hbox hb;have n0_:=aM (Qi (by repeat (first|(with_reducible first|exact HB.out|apply Qc|apply Qa|apply Qb)|exact HB.out)) hb);have n1_:=aM (hbox);have n2_:=aM ((by rw [hg];exact (Qj (by repeat (first|(with_reducible first|exact HB.out|apply Qc|apply Qa|apply Qb)|exact HB.out))):w.heap.size≤gb101));have n3_:=aM ((by rw [hg];exact (Qj (by repeat (first|(with_reducible first|exact HB.out|apply Qc|apply Qa|apply Qb)|exact HB.out))):w.heap.size≤gb101));clear HB;have HB:=n0_;have BK101:=n1_;have GW101:=n2_;have GE101:=n3_;clear n0_ n1_ n2_ n3_;clear hb hbox hg)|((with_reducible refine Qt (N:=3) rfl ?_);refine Qu ?hg (N:=3) ?hd (cs:=#[.int .i64 a1_0,.int .i64 a1_1]) (t:=61) ?hr ?_;(case hd=>rfl);(case hg=>rfl);(case hr=>first|(go_simp;done)|(go_simp;rfl));intro gb102 hg w8 hbox hb;have n0_:=aM (Qn (g:=gb101) (o:= .cells #[.int .i64 a0_0,.int .i64 a0_1] 61 (0,0)) (by (with_reducible repeat (first|apply Qe|apply Qg|apply Qd));exact BK101.out) hb);have n1_:=aM (Qi (by repeat (first|(with_reducible first|exact HB.out|apply Qc|apply Qa|apply Qb|refine Qf ?_ GE101.out)|exact HB.out)) hb);have n2_:=aM (hbox);have n3_:=aM ((by rw [hg];exact (Qj (by repeat (first|(with_reducible first|exact HB.out|apply Qc|apply Qa|apply Qb|refine Qf ?_ GE101.out)|exact HB.out))):w.heap.size≤gb102));have n4_:=aM ((by rw [hg];exact (Qj (by repeat (first|(with_reducible first|exact HB.out|apply Qc|apply Qa|apply Qb|refine Qf ?_ GE101.out)|exact HB.out))):w.heap.size≤gb102));have n5_:=aM ((by rw [hg];exact Nat.ne_of_lt (blk_lt (g:=gb101) (o:= .cells #[.int .i64 a0_0,.int .i64 a0_1] 61 (0,0)) (by (with_reducible repeat (first|apply Qe|apply Qg|apply Qd));exact BK101.out)):gb101≠gb102));have n6_:=aM ((by rw [hg];exact Nat.ne_of_gt (blk_lt (g:=gb101) (o:= .cells #[.int .i64 a0_0,.int .i64 a0_1] 61 (0,0)) (by (with_reducible repeat (first|apply Qe|apply Qg|apply Qd));exact BK101.out)):gb102≠gb101));clear BK101;clear HB;have BK101:=n0_;have HB:=n1_;have BK102:=n2_;have GW102:=n3_;have GE102:=n4_;have NB101_102:=n5_;have NB102_101:=n6_;clear n0_ n1_ n2_ n3_ n4_ n5_ n6_;clear hb hbox hg)|((with_reducible refine Qt (N:=4) rfl ?_);refine Qu ?hg (N:=4) ?hd (cs:=#[.int .i64 0,.int .i64 0]) (t:=61) ?hr ?_;(case hd=>rfl);(case hg=>rfl);(case hr=>first|(go_simp;done)|(go_simp;rfl));intro gb103 hg w9 hbox hb;have n0_:=aM (Qn (g:=gb101) (o:= .cells #[.int .i64 a0_0,.int .i64 a0_1] 61 (0,0)) (by (with_reducible repeat (first|apply Qe|apply Qg|apply Qd));exact BK101.out) hb);have n1_:=aM (Qn (g:=gb102) (o:= .cells #[.int .i64 a1_0,.int .i64 a1_1] 61 (0,0)) (by (with_reducible repeat (first|apply Qe|apply Qg|apply Qd));exact BK102.out) hb);have n2_:=aM (Qi (by repeat (first|(with_reducible first|exact HB.out|apply Qc|apply Qa|apply Qb|refine Qf ?_ GE101.out|refine Qf ?_ GE102.out)|exact HB.out)) hb);have n3_:=aM (hbox);have n4_:=aM ((by rw [hg];exact (Qj (by repeat (first|(with_reducible first|exact HB.out|apply Qc|apply Qa|apply Qb|refine Qf ?_ GE101.out|refine Qf ?_ GE102.out)|exact HB.out))):w.heap.size≤gb103));have n5_:=aM ((by rw [hg];exact (Qj (by repeat (first|(with_reducible first|exact HB.out|apply Qc|apply Qa|apply Qb|refine Qf ?_ GE101.out|refine Qf ?_ GE102.out)|exact HB.out))):w.heap.size≤gb103));have n6_:=aM ((by rw [hg];exact Nat.ne_of_lt (blk_lt (g:=gb101) (o:= .cells #[.int .i64 a0_0,.int .i64 a0_1] 61 (0,0)) (by (with_reducible repeat (first|apply Qe|apply Qg|apply Qd));exact BK101.out)):gb101≠gb103));have n7_:=aM ((by rw [hg];exact Nat.ne_of_gt (blk_lt (g:=gb101) (o:= .cells #[.int .i64 a0_0,.int .i64 a0_1] 61 (0,0)) (by (with_reducible repeat (first|apply Qe|apply Qg|apply Qd));exact BK101.out)):gb103≠gb101));have n8_:=aM ((by rw [hg];exact Nat.ne_of_lt (blk_lt (g:=gb102) (o:= .cells #[.int .i64 a1_0,.int .i64 a1_1] 61 (0,0)) (by (with_reducible repeat (first|apply Qe|apply Qg|apply Qd));exact BK102.out)):gb102≠gb103));have n9_:=aM ((by rw [hg];exact Nat.ne_of_gt (blk_lt (g:=gb102) (o:= .cells #[.int .i64 a1_0,.int .i64 a1_1] 61 (0,0)) (by (with_reducible repeat (first|apply Qe|apply Qg|apply Qd));exact BK102.out)):gb103≠gb102));clear BK101;clear BK102;clear HB;have BK101:=n0_;have BK102:=n1_;have HB:=n2_;have BK103:=n3_;have GW103:=n4_;have GE103:=n5_;have NB101_103:=n6_;have NB103_101:=n7_;have NB102_103:=n8_;have NB103_102:=n9_;clear n0_ n1_ n2_ n3_ n4_ n5_ n6_ n7_ n8_ n9_;clear hb hbox hg;have hnb10:=NB101_102.out;have hnc10:=NB102_101.out;have hnb11:=NB101_103.out;have hnc11:=NB103_101.out;have hcz12_0:w9.cell? ⟨gb101,0,none⟩=some (.int .i64 a0_0):=(Qk BK101.out 0).trans rfl;have hcz12_1:w9.cell? ⟨gb101,1,none⟩=some (.int .i64 a0_1):=(Qk BK101.out 1).trans rfl;have hfz12_0:=Qh BK101.out 0;have hfz12_1:=Qh BK101.out 1;have hnb13:=NB102_103.out;have hnc13:=NB103_102.out;have hcz14_0:w9.cell? ⟨gb102,0,none⟩=some (.int .i64 a1_0):=(Qk BK102.out 0).trans rfl;have hcz14_1:w9.cell? ⟨gb102,1,none⟩=some (.int .i64 a1_1):=(Qk BK102.out 1).trans rfl;have hfz14_0:=Qh BK102.out 0;have hfz14_1:=Qh BK102.out 1)|((with_reducible refine Qo (f:=252) rfl ?_);refine goesL_ (some 8) rfl rfl Try.func252 (by kernel_rfl) rfl #[.agg #[.int .i64 a0_0,.int .i64 a0_1],.agg #[.int .i64 a1_0,.int .i64 a1_1]] rfl (by (try simp only [aD,aE,aF]);first|done|rfl|(simp only [aG,aH];rfl)) ?_;(with_reducible refine (spec_l1Both.calls k a0_0 a0_1 a1_0 a1_1 true _ A3.out).mono ?_);rintro e w15 ⟨rfl,hb⟩;refine ⟨_,rfl,?_⟩;have n0_:=aM (Qn (g:=gb101) (o:= .cells #[.int .i64 a0_0,.int .i64 a0_1] 61 (0,0)) (by (with_reducible repeat (first|apply Qe|apply Qg|apply Qd));exact BK101.out) hb);have n1_:=aM (Qn (g:=gb102) (o:= .cells #[.int .i64 a1_0,.int .i64 a1_1] 61 (0,0)) (by (with_reducible repeat (first|apply Qe|apply Qg|apply Qd));exact BK102.out) hb);have n2_:=aM (Qn (g:=gb103) (o:= .cells #[.int .i64 0,.int .i64 0] 61 (0,0)) (by (with_reducible repeat (first|apply Qe|apply Qg|apply Qd));exact BK103.out) hb);have n3_:=aM (Qi (by repeat (first|(with_reducible first|exact HB.out|apply Qc|apply Qa|apply Qb|refine Qf ?_ GE101.out|refine Qf ?_ GE102.out|refine Qf ?_ GE103.out)|exact HB.out)) hb);clear BK101;clear BK102;clear BK103;clear HB;have BK101:=n0_;have BK102:=n1_;have BK103:=n2_;have HB:=n3_;clear n0_ n1_ n2_ n3_;(try clear hb);(try clear hb2);(try clear hk);(try clear hi);have hcz16_0:w15.cell? ⟨gb101,0,none⟩=some (.int .i64 a0_0):=(Qk BK101.out 0).trans rfl;have hcz16_1:w15.cell? ⟨gb101,1,none⟩=some (.int .i64 a0_1):=(Qk BK101.out 1).trans rfl;have hfz16_0:=Qh BK101.out 0;have hfz16_1:=Qh BK101.out 1;have hcz17_0:w15.cell? ⟨gb102,0,none⟩=some (.int .i64 a1_0):=(Qk BK102.out 0).trans rfl;have hcz17_1:w15.cell? ⟨gb102,1,none⟩=some (.int .i64 a1_1):=(Qk BK102.out 1).trans rfl;have hfz17_0:=Qh BK102.out 0;have hfz17_1:=Qh BK102.out 1)|((with_reducible refine Qo (f:=273) rfl ?_);refine goesL_ (some 13) rfl rfl Try.func273 (by kernel_rfl) rfl #[.agg #[.int .i64 a0_0,.int .i64 a0_1],.agg #[.int .i64 a1_0,.int .i64 a1_1]] rfl (by (try simp only [aD,aE,aF]);first|done|rfl|(simp only [aG,aH];rfl)) ?_;(with_reducible refine (spec_l1Add.calls k a0_0 a0_1 a1_0 a1_1 t105 t106 _ A5.out).mono ?_);rintro e w18 ⟨rfl,hb⟩;refine ⟨_,rfl,?_⟩;have n0_:=aM (Qn (g:=gb101) (o:= .cells #[.int .i64 a0_0,.int .i64 a0_1] 61 (0,0)) (by (with_reducible repeat (first|apply Qe|apply Qg|apply Qd));exact BK101.out) hb);have n1_:=aM (Qn (g:=gb102) (o:= .cells #[.int .i64 a1_0,.int .i64 a1_1] 61 (0,0)) (by (with_reducible repeat (first|apply Qe|apply Qg|apply Qd));exact BK102.out) hb);have n2_:=aM (Qn (g:=gb103) (o:= .cells #[.int .i64 0,.int .i64 0] 61 (0,0)) (by (with_reducible repeat (first|apply Qe|apply Qg|apply Qd));exact BK103.out) hb);have n3_:=aM (Qi (by repeat (first|(with_reducible first|exact HB.out|apply Qc|apply Qa|apply Qb|refine Qf ?_ GE101.out|refine Qf ?_ GE102.out|refine Qf ?_ GE103.out)|exact HB.out)) hb);clear BK101;clear BK102;clear BK103;clear HB;have BK101:=n0_;have BK102:=n1_;have BK103:=n2_;have HB:=n3_;clear n0_ n1_ n2_ n3_;(try clear hb);(try clear hb2);(try clear hk);(try clear hi))|((with_reducible refine Qo (f:=272) rfl ?_);refine goesL_ (some 14) rfl rfl Try.func272 (by kernel_rfl) rfl #[.agg #[.int .i64 t105,.int .i64 t106]] rfl (by (try simp only [aD,aE,aF]);first|done|rfl|(simp only [aG,aH];rfl)) ?_;(with_reducible refine (spec_l1Fits.calls k t105 t106 t107 t108 t109 _ A6.out).mono ?_);rintro e w19 ⟨rfl,hb⟩;refine ⟨_,rfl,?_⟩;have n0_:=aM (Qn (g:=gb101) (o:= .cells #[.int .i64 a0_0,.int .i64 a0_1] 61 (0,0)) (by (with_reducible repeat (first|apply Qe|apply Qg|apply Qd));exact BK101.out) hb);have n1_:=aM (Qn (g:=gb102) (o:= .cells #[.int .i64 a1_0,.int .i64 a1_1] 61 (0,0)) (by (with_reducible repeat (first|apply Qe|apply Qg|apply Qd));exact BK102.out) hb);have n2_:=aM (Qn (g:=gb103) (o:= .cells #[.int .i64 0,.int .i64 0] 61 (0,0)) (by (with_reducible repeat (first|apply Qe|apply Qg|apply Qd));exact BK103.out) hb);have n3_:=aM (Qi (by repeat (first|(with_reducible first|exact HB.out|apply Qc|apply Qa|apply Qb|refine Qf ?_ GE101.out|refine Qf ?_ GE102.out|refine Qf ?_ GE103.out)|exact HB.out)) hb);clear BK101;clear BK102;clear BK103;clear HB;have BK101:=n0_;have BK102:=n1_;have BK103:=n2_;have HB:=n3_;clear n0_ n1_ n2_ n3_;(try clear hb);(try clear hb2);(try clear hk);(try clear hi);have hcz20_0:w19.cell? ⟨gb103,0,none⟩=some (.int .i64 0):=(Qk BK103.out 0).trans rfl;have hcz20_1:w19.cell? ⟨gb103,1,none⟩=some (.int .i64 0):=(Qk BK103.out 1).trans rfl;have hfz20_0:=Qh BK103.out 0;have hfz20_1:=Qh BK103.out 1))
   refine bodyPost_ret (results_ct rfl _ _ gb103 61 #[.int .i64 t107,.int .i64 t108] (0,0) _ rfl (by (with_reducible repeat (first|apply Qe|apply Qg|apply Qd));refine Qv (cs:=#[.int .i64 t107,.int .i64 0]) ?_ 1 _ rfl;(with_reducible repeat (first|apply Qe|apply Qg|apply Qd));refine Qv (cs:=#[.int .i64 0,.int .i64 0]) ?_ 0 _ rfl;(with_reducible repeat (first|apply Qe|apply Qg|apply Qd));exact BK103.out) Try.underlying61 rfl (by kernel_rfl)) rfl ?_;exact ⟨by first|rfl|(simp [errW_none,errW_some] <;> rfl)|(simp [*,errW_none,errW_some] <;> rfl),by repeat (first|(with_reducible first|exact HB.out|apply Qc|apply Qa|apply Qb|refine Qf ?_ GE101.out|refine Qf ?_ GE102.out|refine Qf ?_ GE103.out)|exact HB.out)⟩
  ·replace c4:=Bool.eq_false_iff.mpr c4;subst c4;have H1:(some (0,0,false))=some (r1,r2,r3):=by rw [if_neg (show ¬ (false=true) by decide)] at H;exact H
   clear H;have H:=H1;clear H1;simp only [Option.some.injEq,Prod.mk.injEq] at H;obtain ⟨rfl,rfl,rfl⟩:=H;go_enter Try.func251,Try.ntmps251;go_wp2_with (first|((with_reducible refine Qt (N:=2) rfl ?_);refine Qu ?hg (N:=2) ?hd (cs:=#[.int .i64 a0_0,.int .i64 a0_1]) (t:=61) ?hr ?_;(case hd=>rfl);(case hg=>rfl);(case hr=>first|(go_simp;done)|(go_simp;rfl));intro gb101 hg w21 hbox hb;have n0_:=aM (Qi (by repeat (first|(with_reducible first|exact HB.out|apply Qc|apply Qa|apply Qb)|exact HB.out)) hb);have n1_:=aM (hbox);have n2_:=aM ((by rw [hg];exact (Qj (by repeat (first|(with_reducible first|exact HB.out|apply Qc|apply Qa|apply Qb)|exact HB.out))):w.heap.size≤gb101));have n3_:=aM ((by rw [hg];exact (Qj (by repeat (first|(with_reducible first|exact HB.out|apply Qc|apply Qa|apply Qb)|exact HB.out))):w.heap.size≤gb101));clear HB;have HB:=n0_;have BK101:=n1_;have GW101:=n2_;have GE101:=n3_;clear n0_ n1_ n2_ n3_;clear hb hbox hg)|((with_reducible refine Qt (N:=3) rfl ?_);refine Qu ?hg (N:=3) ?hd (cs:=#[.int .i64 a1_0,.int .i64 a1_1]) (t:=61) ?hr ?_;(case hd=>rfl);(case hg=>rfl);(case hr=>first|(go_simp;done)|(go_simp;rfl));intro gb102 hg w22 hbox hb;have n0_:=aM (Qn (g:=gb101) (o:= .cells #[.int .i64 a0_0,.int .i64 a0_1] 61 (0,0)) (by (with_reducible repeat (first|apply Qe|apply Qg|apply Qd));exact BK101.out) hb);have n1_:=aM (Qi (by repeat (first|(with_reducible first|exact HB.out|apply Qc|apply Qa|apply Qb|refine Qf ?_ GE101.out)|exact HB.out)) hb);have n2_:=aM (hbox);have n3_:=aM ((by rw [hg];exact (Qj (by repeat (first|(with_reducible first|exact HB.out|apply Qc|apply Qa|apply Qb|refine Qf ?_ GE101.out)|exact HB.out))):w.heap.size≤gb102));have n4_:=aM ((by rw [hg];exact (Qj (by repeat (first|(with_reducible first|exact HB.out|apply Qc|apply Qa|apply Qb|refine Qf ?_ GE101.out)|exact HB.out))):w.heap.size≤gb102));have n5_:=aM ((by rw [hg];exact Nat.ne_of_lt (blk_lt (g:=gb101) (o:= .cells #[.int .i64 a0_0,.int .i64 a0_1] 61 (0,0)) (by (with_reducible repeat (first|apply Qe|apply Qg|apply Qd));exact BK101.out)):gb101≠gb102));have n6_:=aM ((by rw [hg];exact Nat.ne_of_gt (blk_lt (g:=gb101) (o:= .cells #[.int .i64 a0_0,.int .i64 a0_1] 61 (0,0)) (by (with_reducible repeat (first|apply Qe|apply Qg|apply Qd));exact BK101.out)):gb102≠gb101));clear BK101;clear HB;have BK101:=n0_;have HB:=n1_;have BK102:=n2_;have GW102:=n3_;have GE102:=n4_;have NB101_102:=n5_;have NB102_101:=n6_;clear n0_ n1_ n2_ n3_ n4_ n5_ n6_;clear hb hbox hg)|((with_reducible refine Qt (N:=4) rfl ?_);refine Qu ?hg (N:=4) ?hd (cs:=#[.int .i64 0,.int .i64 0]) (t:=61) ?hr ?_;(case hd=>rfl);(case hg=>rfl);(case hr=>first|(go_simp;done)|(go_simp;rfl));intro gb103 hg w23 hbox hb;have n0_:=aM (Qn (g:=gb101) (o:= .cells #[.int .i64 a0_0,.int .i64 a0_1] 61 (0,0)) (by (with_reducible repeat (first|apply Qe|apply Qg|apply Qd));exact BK101.out) hb);have n1_:=aM (Qn (g:=gb102) (o:= .cells #[.int .i64 a1_0,.int .i64 a1_1] 61 (0,0)) (by (with_reducible repeat (first|apply Qe|apply Qg|apply Qd));exact BK102.out) hb);have n2_:=aM (Qi (by repeat (first|(with_reducible first|exact HB.out|apply Qc|apply Qa|apply Qb|refine Qf ?_ GE101.out|refine Qf ?_ GE102.out)|exact HB.out)) hb);have n3_:=aM (hbox);have n4_:=aM ((by rw [hg];exact (Qj (by repeat (first|(with_reducible first|exact HB.out|apply Qc|apply Qa|apply Qb|refine Qf ?_ GE101.out|refine Qf ?_ GE102.out)|exact HB.out))):w.heap.size≤gb103));have n5_:=aM ((by rw [hg];exact (Qj (by repeat (first|(with_reducible first|exact HB.out|apply Qc|apply Qa|apply Qb|refine Qf ?_ GE101.out|refine Qf ?_ GE102.out)|exact HB.out))):w.heap.size≤gb103));have n6_:=aM ((by rw [hg];exact Nat.ne_of_lt (blk_lt (g:=gb101) (o:= .cells #[.int .i64 a0_0,.int .i64 a0_1] 61 (0,0)) (by (with_reducible repeat (first|apply Qe|apply Qg|apply Qd));exact BK101.out)):gb101≠gb103));have n7_:=aM ((by rw [hg];exact Nat.ne_of_gt (blk_lt (g:=gb101) (o:= .cells #[.int .i64 a0_0,.int .i64 a0_1] 61 (0,0)) (by (with_reducible repeat (first|apply Qe|apply Qg|apply Qd));exact BK101.out)):gb103≠gb101));have n8_:=aM ((by rw [hg];exact Nat.ne_of_lt (blk_lt (g:=gb102) (o:= .cells #[.int .i64 a1_0,.int .i64 a1_1] 61 (0,0)) (by (with_reducible repeat (first|apply Qe|apply Qg|apply Qd));exact BK102.out)):gb102≠gb103));have n9_:=aM ((by rw [hg];exact Nat.ne_of_gt (blk_lt (g:=gb102) (o:= .cells #[.int .i64 a1_0,.int .i64 a1_1] 61 (0,0)) (by (with_reducible repeat (first|apply Qe|apply Qg|apply Qd));exact BK102.out)):gb103≠gb102));clear BK101;clear BK102;clear HB;have BK101:=n0_;have BK102:=n1_;have HB:=n2_;have BK103:=n3_;have GW103:=n4_;have GE103:=n5_;have NB101_103:=n6_;have NB103_101:=n7_;have NB102_103:=n8_;have NB103_102:=n9_;clear n0_ n1_ n2_ n3_ n4_ n5_ n6_ n7_ n8_ n9_;clear hb hbox hg;have hnb24:=NB101_102.out;have hnc24:=NB102_101.out;have hnb25:=NB101_103.out;have hnc25:=NB103_101.out;have hcz26_0:w23.cell? ⟨gb101,0,none⟩=some (.int .i64 a0_0):=(Qk BK101.out 0).trans rfl;have hcz26_1:w23.cell? ⟨gb101,1,none⟩=some (.int .i64 a0_1):=(Qk BK101.out 1).trans rfl;have hfz26_0:=Qh BK101.out 0;have hfz26_1:=Qh BK101.out 1;have hnb27:=NB102_103.out;have hnc27:=NB103_102.out;have hcz28_0:w23.cell? ⟨gb102,0,none⟩=some (.int .i64 a1_0):=(Qk BK102.out 0).trans rfl;have hcz28_1:w23.cell? ⟨gb102,1,none⟩=some (.int .i64 a1_1):=(Qk BK102.out 1).trans rfl;have hfz28_0:=Qh BK102.out 0;have hfz28_1:=Qh BK102.out 1)|((with_reducible refine Qo (f:=252) rfl ?_);refine goesL_ (some 8) rfl rfl Try.func252 (by kernel_rfl) rfl #[.agg #[.int .i64 a0_0,.int .i64 a0_1],.agg #[.int .i64 a1_0,.int .i64 a1_1]] rfl (by (try simp only [aD,aE,aF]);first|done|rfl|(simp only [aG,aH];rfl)) ?_;(with_reducible refine (spec_l1Both.calls k a0_0 a0_1 a1_0 a1_1 false _ A3.out).mono ?_);rintro e w29 ⟨rfl,hb⟩;refine ⟨_,rfl,?_⟩;have n0_:=aM (Qn (g:=gb101) (o:= .cells #[.int .i64 a0_0,.int .i64 a0_1] 61 (0,0)) (by (with_reducible repeat (first|apply Qe|apply Qg|apply Qd));exact BK101.out) hb);have n1_:=aM (Qn (g:=gb102) (o:= .cells #[.int .i64 a1_0,.int .i64 a1_1] 61 (0,0)) (by (with_reducible repeat (first|apply Qe|apply Qg|apply Qd));exact BK102.out) hb);have n2_:=aM (Qn (g:=gb103) (o:= .cells #[.int .i64 0,.int .i64 0] 61 (0,0)) (by (with_reducible repeat (first|apply Qe|apply Qg|apply Qd));exact BK103.out) hb);have n3_:=aM (Qi (by repeat (first|(with_reducible first|exact HB.out|apply Qc|apply Qa|apply Qb|refine Qf ?_ GE101.out|refine Qf ?_ GE102.out|refine Qf ?_ GE103.out)|exact HB.out)) hb);clear BK101;clear BK102;clear BK103;clear HB;have BK101:=n0_;have BK102:=n1_;have BK103:=n2_;have HB:=n3_;clear n0_ n1_ n2_ n3_;(try clear hb);(try clear hb2);(try clear hk);(try clear hi);have hcz30_0:w29.cell? ⟨gb103,0,none⟩=some (.int .i64 0):=(Qk BK103.out 0).trans rfl;have hcz30_1:w29.cell? ⟨gb103,1,none⟩=some (.int .i64 0):=(Qk BK103.out 1).trans rfl;have hfz30_0:=Qh BK103.out 0;have hfz30_1:=Qh BK103.out 1))
   refine bodyPost_ret (results_ct rfl _ _ gb103 61 #[.int .i64 0,.int .i64 0] (0,0) _ rfl (by (with_reducible repeat (first|apply Qe|apply Qg|apply Qd));refine Qv (cs:=#[.int .i64 0,.int .i64 0]) ?_ 1 _ rfl;(with_reducible repeat (first|apply Qe|apply Qg|apply Qd));refine Qv (cs:=#[.int .i64 0,.int .i64 0]) ?_ 0 _ rfl;(with_reducible repeat (first|apply Qe|apply Qg|apply Qd));exact BK103.out) Try.underlying61 rfl (by kernel_rfl)) rfl ?_;exact ⟨by first|rfl|(simp [errW_none,errW_some] <;> rfl)|(simp [*,errW_none,errW_some] <;> rfl),by repeat (first|(with_reducible first|exact HB.out|apply Qc|apply Qa|apply Qb|refine Qf ?_ GE101.out|refine Qf ?_ GE102.out|refine Qf ?_ GE103.out)|exact HB.out)⟩

def spec_SumFracs.l0:Nat→List (S61)→Int→Int→Int→Int→Option (Int×Int×Bool)
  |0,_,_,_,_,_=>none
  |k+1,x14,x15,x16,x103000,x103001=>if x16<x15 then (if 0≤x16 then (if x16<(x14.length:Int) then ((spec_AddFrac.f k x103000 x103001 ((rd_T61 x14 x16).f0) ((rd_T61 x14 x16).f1)).bind fun bt105=>(if bt105.2.2=true then (spec_SumFracs.l0 k x14 x15 (wrap64 (x16+1)) bt105.1 bt105.2.1) else (some (0,0,false)))) else (none)) else (none)) else (some (x103000,x103001,true))
def spec_SumFracs.f (k:Nat) (l0:List (S61)):Option (Int×Int×Bool):=if (l0.length:Int) > 50 then (some (0,0,false)) else (spec_SumFracs.l0 k l0 (l0.length:Int) 0 0 1)
set_option maxHeartbeats 8000000 in
set_option maxRecDepth 100000 in
theorem spec_SumFracs.calls (k:Nat) (A0:Option Addr) (c0:Nat) (l0:List (S61)) (r1:Int) (r2:Int) (r3:Bool) (w:World) (hr0:Kd.C k61 w A0 l0.length l0) (hc0:l0.length≤c0) (h:spec_SumFracs.f k l0=some (r1,r2,r3)) :
    Calls Try.prog 192 #[.slice A0 l0.length c0] w fun e w'=>e= .returned (.tuple #[.agg #[.int .i64 r1,.int .i64 r2],.bool r3])∧Below w.heap.size w w':=by
  have hu61:=Try.underlying61;have HR0:=aM hr0;have HC0:=aM hc0;clear hr0 hc0;have HB:=aM (Below.refl w.heap.size w);have H:(if (l0.length:Int) > 50 then (some (0,0,false)) else (spec_SumFracs.l0 k l0 (l0.length:Int) 0 0 1))=some (r1,r2,r3):=h;clear h;by_cases c2:(l0.length:Int) > 50
  ·rw [if_pos c2] at H;have c2b0:decide (50<(l0.length:Int))=true:=decide_eq_true c2;have c2b1:decide (50<l0.length)=true:=decide_eq_true (by omega);clear c2;simp only [Option.some.injEq,Prod.mk.injEq] at H;obtain ⟨rfl,rfl,rfl⟩:=H;go_enter Try.func192,Try.ntmps192;go_wp2_with (first|((with_reducible refine Qt (N:=2) rfl ?_);refine Qu ?hg (N:=2) ?hd (cs:=#[.int .i64 0,.int .i64 0]) (t:=61) ?hr ?_;(case hd=>rfl);(case hg=>rfl);(case hr=>first|(go_simp;done)|(go_simp;rfl));intro gb101 hg w3 hbox hb;have n0_:=aM (Qi (by repeat (first|(with_reducible first|exact HB.out|apply Qc|apply Qa|apply Qb)|exact HB.out)) hb);have n1_:=aM (hbox);have n2_:=aM ((by rw [hg];exact (Qj (by repeat (first|(with_reducible first|exact HB.out|apply Qc|apply Qa|apply Qb)|exact HB.out))):w.heap.size≤gb101));have n3_:=aM ((by rw [hg];exact (Qj (by repeat (first|(with_reducible first|exact HB.out|apply Qc|apply Qa|apply Qb)|exact HB.out))):w.heap.size≤gb101));clear HB;have HB:=n0_;have BK101:=n1_;have GW101:=n2_;have GE101:=n3_;clear n0_ n1_ n2_ n3_;clear hb hbox hg)|((with_reducible refine Qt (N:=4) rfl ?_);refine Qu ?hg (N:=4) ?hd (cs:=#[.int .i64 0,.int .i64 0]) (t:=61) ?hr ?_;(case hd=>rfl);(case hg=>rfl);(case hr=>first|(go_simp;done)|(go_simp;rfl));intro gb102 hg w4 hbox hb;have n0_:=aM (Qn (g:=gb101) (o:= .cells #[.int .i64 0,.int .i64 0] 61 (0,0)) (by (with_reducible repeat (first|apply Qe|apply Qg|apply Qd));exact BK101.out) hb);have n1_:=aM (Qi (by repeat (first|(with_reducible first|exact HB.out|apply Qc|apply Qa|apply Qb|refine Qf ?_ GE101.out)|exact HB.out)) hb);have n2_:=aM (hbox);have n3_:=aM ((by rw [hg];exact (Qj (by repeat (first|(with_reducible first|exact HB.out|apply Qc|apply Qa|apply Qb|refine Qf ?_ GE101.out)|exact HB.out))):w.heap.size≤gb102));have n4_:=aM ((by rw [hg];exact (Qj (by repeat (first|(with_reducible first|exact HB.out|apply Qc|apply Qa|apply Qb|refine Qf ?_ GE101.out)|exact HB.out))):w.heap.size≤gb102));have n5_:=aM ((by rw [hg];exact Nat.ne_of_lt (blk_lt (g:=gb101) (o:= .cells #[.int .i64 0,.int .i64 0] 61 (0,0)) (by (with_reducible repeat (first|apply Qe|apply Qg|apply Qd));exact BK101.out)):gb101≠gb102));have n6_:=aM ((by rw [hg];exact Nat.ne_of_gt (blk_lt (g:=gb101) (o:= .cells #[.int .i64 0,.int .i64 0] 61 (0,0)) (by (with_reducible repeat (first|apply Qe|apply Qg|apply Qd));exact BK101.out)):gb102≠gb101));clear BK101;clear HB;have BK101:=n0_;have HB:=n1_;have BK102:=n2_;have GW102:=n3_;have GE102:=n4_;have NB101_102:=n5_;have NB102_101:=n6_;clear n0_ n1_ n2_ n3_ n4_ n5_ n6_;clear hb hbox hg;have hnb5:=NB102_101.out;have hnc5:=NB101_102.out;have hcz6_0:w4.cell? ⟨gb102,0,none⟩=some (.int .i64 0):=(Qk BK102.out 0).trans rfl;have hcz6_1:w4.cell? ⟨gb102,1,none⟩=some (.int .i64 0):=(Qk BK102.out 1).trans rfl;have hfz6_0:=Qh BK102.out 0;have hfz6_1:=Qh BK102.out 1;have hcz7_0:w4.cell? ⟨gb101,0,none⟩=some (.int .i64 0):=(Qk BK101.out 0).trans rfl;have hcz7_1:w4.cell? ⟨gb101,1,none⟩=some (.int .i64 0):=(Qk BK101.out 1).trans rfl;have hfz7_0:=Qh BK101.out 0;have hfz7_1:=Qh BK101.out 1))
   refine bodyPost_ret (results_ct rfl _ _ gb101 61 #[.int .i64 0,.int .i64 0] (0,0) _ rfl (by (with_reducible repeat (first|apply Qe|apply Qg|apply Qd));refine Qv (cs:=#[.int .i64 0,.int .i64 0]) ?_ 1 _ rfl;(with_reducible repeat (first|apply Qe|apply Qg|apply Qd));refine Qv (cs:=#[.int .i64 0,.int .i64 0]) ?_ 0 _ rfl;(with_reducible repeat (first|apply Qe|apply Qg|apply Qd));refine blk_far ?_ NB101_102.out _;(with_reducible repeat (first|apply Qe|apply Qg|apply Qd));refine blk_far ?_ NB101_102.out _;(with_reducible repeat (first|apply Qe|apply Qg|apply Qd));exact BK101.out) Try.underlying61 rfl (by kernel_rfl)) rfl ?_;exact ⟨by first|rfl|(simp [errW_none,errW_some] <;> rfl)|(simp [*,errW_none,errW_some] <;> rfl),by repeat (first|(with_reducible first|exact HB.out|apply Qc|apply Qa|apply Qb|refine Qf ?_ GE101.out|refine Qf ?_ GE102.out)|exact HB.out)⟩
  ·rw [if_neg c2] at H;have c2b0:decide (50<(l0.length:Int))=false:=decide_eq_false c2;have c2b1:decide (50<l0.length)=false:=decide_eq_false (by omega);clear c2;have H':=aM H;clear H;go_enter Try.func192,Try.ntmps192;go_wp2_with (first|((with_reducible refine Qt (N:=2) rfl ?_);refine Qu ?hg (N:=2) ?hd (cs:=#[.int .i64 0,.int .i64 0]) (t:=61) ?hr ?_;(case hd=>rfl);(case hg=>rfl);(case hr=>first|(go_simp;done)|(go_simp;rfl));intro gb101 hg w8 hbox hb;have n0_:=aM (Qi (by repeat (first|(with_reducible first|exact HB.out|apply Qc|apply Qa|apply Qb)|exact HB.out)) hb);have n1_:=aM (hbox);have n2_:=aM ((by rw [hg];exact (Qj (by repeat (first|(with_reducible first|exact HB.out|apply Qc|apply Qa|apply Qb)|exact HB.out))):w.heap.size≤gb101));have n3_:=aM ((by rw [hg];exact (Qj (by repeat (first|(with_reducible first|exact HB.out|apply Qc|apply Qa|apply Qb)|exact HB.out))):w.heap.size≤gb101));clear HB;have HB:=n0_;have BK101:=n1_;have GW101:=n2_;have GE101:=n3_;clear n0_ n1_ n2_ n3_;clear hb hbox hg)|((with_reducible refine Qt (N:=4) rfl ?_);refine Qu ?hg (N:=4) ?hd (cs:=#[.int .i64 0,.int .i64 0]) (t:=61) ?hr ?_;(case hd=>rfl);(case hg=>rfl);(case hr=>first|(go_simp;done)|(go_simp;rfl));intro gb102 hg w9 hbox hb;have n0_:=aM (Qn (g:=gb101) (o:= .cells #[.int .i64 0,.int .i64 0] 61 (0,0)) (by (with_reducible repeat (first|apply Qe|apply Qg|apply Qd));exact BK101.out) hb);have n1_:=aM (Qi (by repeat (first|(with_reducible first|exact HB.out|apply Qc|apply Qa|apply Qb|refine Qf ?_ GE101.out)|exact HB.out)) hb);have n2_:=aM (hbox);have n3_:=aM ((by rw [hg];exact (Qj (by repeat (first|(with_reducible first|exact HB.out|apply Qc|apply Qa|apply Qb|refine Qf ?_ GE101.out)|exact HB.out))):w.heap.size≤gb102));have n4_:=aM ((by rw [hg];exact (Qj (by repeat (first|(with_reducible first|exact HB.out|apply Qc|apply Qa|apply Qb|refine Qf ?_ GE101.out)|exact HB.out))):w.heap.size≤gb102));have n5_:=aM ((by rw [hg];exact Nat.ne_of_lt (blk_lt (g:=gb101) (o:= .cells #[.int .i64 0,.int .i64 0] 61 (0,0)) (by (with_reducible repeat (first|apply Qe|apply Qg|apply Qd));exact BK101.out)):gb101≠gb102));have n6_:=aM ((by rw [hg];exact Nat.ne_of_gt (blk_lt (g:=gb101) (o:= .cells #[.int .i64 0,.int .i64 0] 61 (0,0)) (by (with_reducible repeat (first|apply Qe|apply Qg|apply Qd));exact BK101.out)):gb102≠gb101));clear BK101;clear HB;have BK101:=n0_;have HB:=n1_;have BK102:=n2_;have GW102:=n3_;have GE102:=n4_;have NB101_102:=n5_;have NB102_101:=n6_;clear n0_ n1_ n2_ n3_ n4_ n5_ n6_;clear hb hbox hg;have hnb10:=NB102_101.out;have hnc10:=NB101_102.out;have hcz11_0:w9.cell? ⟨gb102,0,none⟩=some (.int .i64 0):=(Qk BK102.out 0).trans rfl;have hcz11_1:w9.cell? ⟨gb102,1,none⟩=some (.int .i64 0):=(Qk BK102.out 1).trans rfl;have hfz11_0:=Qh BK102.out 0;have hfz11_1:=Qh BK102.out 1))
   go_loopg [16] k (fun kq v16 w'=>∃ (x16_1:Int) (x102000_1:Int) (x102001_1:Int) (x103000_1:Int) (x103001_1:Int),v16= .int .i64 x16_1∧Aside0 (spec_SumFracs.l0 kq l0 (l0.length:Int) x16_1 x103000_1 x103001_1=some (r1,r2,r3))∧Aside0 (kq≤k)∧Aside0 (w'.heap[gb101]? = some (.cells #[.int .i64 x102000_1,.int .i64 x102001_1] 61 (0,0)))∧Aside0 (w'.heap[gb102]? = some (.cells #[.int .i64 x103000_1,.int .i64 x103001_1] 61 (0,0)))∧Aside0 (Below w.heap.size w w'))
   case atStart=>exact ⟨(0),(0),(0),(0),(1),(by first|rfl|(simp;done)|(simp [*];done)),H',⟨Nat.le_refl _⟩,⟨by (with_reducible repeat (first|apply Qe|apply Qg|apply Qd));refine blk_far ?_ NB101_102.out _;(with_reducible repeat (first|apply Qe|apply Qg|apply Qd));refine blk_far ?_ NB101_102.out _;(with_reducible repeat (first|apply Qe|apply Qg|apply Qd));exact BK101.out⟩,⟨by (with_reducible repeat (first|apply Qe|apply Qg|apply Qd));refine Qv (cs:=#[.int .i64 0,.int .i64 0]) ?_ 1 _ rfl;(with_reducible repeat (first|apply Qe|apply Qg|apply Qd));refine Qv (cs:=#[.int .i64 0,.int .i64 0]) ?_ 0 _ rfl;(with_reducible repeat (first|apply Qe|apply Qg|apply Qd));exact BK102.out⟩,⟨by repeat (first|(with_reducible first|exact HB.out|apply Qc|apply Qa|apply Qb|refine Qf ?_ GE101.out|refine Qf ?_ GE102.out)|exact HB.out)⟩⟩
   case round=>
    clear H';(try clear c1);(try clear c2);(try clear c2b0);(try clear c2b1);(try clear p2);(try clear c5);(try clear c10);(try clear hcz11_0);(try clear hcz11_1);(try clear hcz6_0);(try clear hcz6_1);(try clear hcz7_0);(try clear hcz7_1);(try clear hfz11_0);(try clear hfz11_1);(try clear hfz6_0);(try clear hfz6_1);(try clear hfz7_0);(try clear hfz7_1);obtain ⟨x16_1,x102000_1,x102001_1,x103000_1,x103001_1,rfl,HA,HK1,BK101,BK102,HB⟩:=hrel
    cases gk with
    |zero=>exact absurd HA.out (by simp [spec_SumFracs.l0])
    |succ k1=>
     have H:=HA.out;clear HA;simp only [spec_SumFracs.l0] at H;by_cases c12:x16_1<(l0.length:Int)
     ·rw [if_pos c12] at H;have c12b0:decide (x16_1<(l0.length:Int))=true:=decide_eq_true c12;clear c12;by_cases c13:0≤x16_1
      ·rw [if_pos c13] at H;have c13b0:decide (0≤x16_1)=true:=decide_eq_true c13;clear c13;by_cases c14:x16_1<(l0.length:Int)
       ·rw [if_pos c14] at H;have c14b0:decide (x16_1<(l0.length:Int))=true:=decide_eq_true c14;clear c14;replace H:=Option.bind_eq_some_iff.mp H;obtain ⟨⟨t105,t106,t107⟩,A150,H⟩:=H;replace H:(if t107=true then (spec_SumFracs.l0 k1 l0 (l0.length:Int) (wrap64 (x16_1+1)) t105 t106) else (some (0,0,false)))=some (r1,r2,r3):=H;have A15:=aM A150;clear A150;by_cases c16:t107=true
        ·subst c16;have H1:(spec_SumFracs.l0 k1 l0 (l0.length:Int) (wrap64 (x16_1+1)) t105 t106)=some (r1,r2,r3):=by rw [if_pos rfl] at H;exact H
         clear H;have H:=H1;clear H1;have H':=aM H;clear H;have p103:0≤(x16_1:Int):=of_decide_eq_true (by first|(with_reducible assumption)|assumption);have q103:x16_1<(l0.length:Int):=of_decide_eq_true (by first|(with_reducible assumption)|assumption);obtain ⟨ad103,e103,hx103_0,hx103_1⟩:=at_T61 HR0.out x16_1 p103 q103
         cases e103
         replace hx103_0:=(HB.out.cell (aI w _ hx103_0)).trans hx103_0;replace hx103_1:=(HB.out.cell (aI w _ hx103_1)).trans hx103_1;replace p103:=eq_true p103;replace q103:=eq_true q103;go_wp2_with (first|((with_reducible refine Qt (N:=6) rfl ?_);refine Qu ?hg (N:=6) ?hd (cs:=#[.int .i64 0,.int .i64 0]) (t:=61) ?hr ?_;(case hd=>rfl);(case hg=>rfl);(case hr=>first|(go_simp;done)|(go_simp;rfl));intro gb104 hg w17 hbox hb;have n0_:=aM (Qn (g:=gb101) (o:= .cells #[.int .i64 x102000_1,.int .i64 x102001_1] 61 (0,0)) (by (with_reducible repeat (first|apply Qe|apply Qg|apply Qd));exact BK101.out) hb);have n1_:=aM (Qn (g:=gb102) (o:= .cells #[.int .i64 x103000_1,.int .i64 x103001_1] 61 (0,0)) (by (with_reducible repeat (first|apply Qe|apply Qg|apply Qd));exact BK102.out) hb);have n2_:=aM (Qi (by repeat (first|(with_reducible first|exact HB.out|apply Qc|apply Qa|apply Qb|refine Qf ?_ GE101.out|refine Qf ?_ GE102.out)|exact HB.out)) hb);have n3_:=aM (hbox);have n4_:=aM ((by rw [hg];exact (Qj (by repeat (first|(with_reducible first|exact HB.out|apply Qc|apply Qa|apply Qb|refine Qf ?_ GE101.out|refine Qf ?_ GE102.out)|exact HB.out))):w.heap.size≤gb104));have n5_:=aM ((by rw [hg];exact (Qj (by repeat (first|(with_reducible first|exact HB.out|apply Qc|apply Qa|apply Qb|refine Qf ?_ GE101.out|refine Qf ?_ GE102.out)|exact HB.out))):w.heap.size≤gb104));have n6_:=aM ((by rw [hg];exact Nat.ne_of_lt (blk_lt (g:=gb101) (o:= .cells #[.int .i64 x102000_1,.int .i64 x102001_1] 61 (0,0)) (by (with_reducible repeat (first|apply Qe|apply Qg|apply Qd));exact BK101.out)):gb101≠gb104));have n7_:=aM ((by rw [hg];exact Nat.ne_of_gt (blk_lt (g:=gb101) (o:= .cells #[.int .i64 x102000_1,.int .i64 x102001_1] 61 (0,0)) (by (with_reducible repeat (first|apply Qe|apply Qg|apply Qd));exact BK101.out)):gb104≠gb101));have n8_:=aM ((by rw [hg];exact Nat.ne_of_lt (blk_lt (g:=gb102) (o:= .cells #[.int .i64 x103000_1,.int .i64 x103001_1] 61 (0,0)) (by (with_reducible repeat (first|apply Qe|apply Qg|apply Qd));exact BK102.out)):gb102≠gb104));have n9_:=aM ((by rw [hg];exact Nat.ne_of_gt (blk_lt (g:=gb102) (o:= .cells #[.int .i64 x103000_1,.int .i64 x103001_1] 61 (0,0)) (by (with_reducible repeat (first|apply Qe|apply Qg|apply Qd));exact BK102.out)):gb104≠gb102));clear BK101;clear BK102;clear HB;have BK101:=n0_;have BK102:=n1_;have HB:=n2_;have BK104:=n3_;have GW104:=n4_;have GE104:=n5_;have NB101_104:=n6_;have NB104_101:=n7_;have NB102_104:=n8_;have NB104_102:=n9_;clear n0_ n1_ n2_ n3_ n4_ n5_ n6_ n7_ n8_ n9_;clear hb hbox hg;have hnb18:=NB104_101.out;have hnc18:=NB101_104.out;have hnb19:=NB104_102.out;have hnc19:=NB102_104.out;have hcz20_0:w17.cell? ⟨gb104,0,none⟩=some (.int .i64 0):=(Qk BK104.out 0).trans rfl;have hcz20_1:w17.cell? ⟨gb104,1,none⟩=some (.int .i64 0):=(Qk BK104.out 1).trans rfl;have hfz20_0:=Qh BK104.out 0;have hfz20_1:=Qh BK104.out 1;have hnb21:=NB102_101.out;have hnc21:=NB101_102.out;have hcz22_0:w17.cell? ⟨gb102,0,none⟩=some (.int .i64 x103000_1):=(Qk BK102.out 0).trans rfl;have hcz22_1:w17.cell? ⟨gb102,1,none⟩=some (.int .i64 x103001_1):=(Qk BK102.out 1).trans rfl;have hfz22_0:=Qh BK102.out 0;have hfz22_1:=Qh BK102.out 1)|((with_reducible refine Qo (f:=251) rfl ?_);refine goesL_ (some 23) rfl rfl Try.func251 (by kernel_rfl) rfl #[.agg #[.int .i64 x103000_1,.int .i64 x103001_1],.agg #[.int .i64 ((rd_T61 l0 x16_1).f0),.int .i64 ((rd_T61 l0 x16_1).f1)]] rfl (by (try simp only [aD,aE,aF]);first|done|rfl|(simp only [aG,aH];rfl)) ?_;(with_reducible refine (spec_AddFrac.calls k1 x103000_1 x103001_1 ((rd_T61 l0 x16_1).f0) ((rd_T61 l0 x16_1).f1) t105 t106 true _ A15.out).mono ?_);rintro e w23 ⟨rfl,hb⟩;refine ⟨_,rfl,?_⟩;have n0_:=aM (Qn (g:=gb101) (o:= .cells #[.int .i64 x102000_1,.int .i64 x102001_1] 61 (0,0)) (by (with_reducible repeat (first|apply Qe|apply Qg|apply Qd));refine blk_far ?_ NB101_104.out _;(with_reducible repeat (first|apply Qe|apply Qg|apply Qd));refine blk_far ?_ NB101_104.out _;(with_reducible repeat (first|apply Qe|apply Qg|apply Qd));exact BK101.out) hb);have n1_:=aM (Qn (g:=gb102) (o:= .cells #[.int .i64 x103000_1,.int .i64 x103001_1] 61 (0,0)) (by (with_reducible repeat (first|apply Qe|apply Qg|apply Qd));refine blk_far ?_ NB102_104.out _;(with_reducible repeat (first|apply Qe|apply Qg|apply Qd));refine blk_far ?_ NB102_104.out _;(with_reducible repeat (first|apply Qe|apply Qg|apply Qd));exact BK102.out) hb);have n2_:=aM (Qn (g:=gb104) (o:= .cells #[.int .i64 ((rd_T61 l0 x16_1).f0),.int .i64 ((rd_T61 l0 x16_1).f1)] 61 (0,0)) (by (with_reducible repeat (first|apply Qe|apply Qg|apply Qd));refine Qv (cs:=#[.int .i64 ((rd_T61 l0 x16_1).f0),.int .i64 0]) ?_ 1 _ rfl;(with_reducible repeat (first|apply Qe|apply Qg|apply Qd));refine Qv (cs:=#[.int .i64 0,.int .i64 0]) ?_ 0 _ rfl;(with_reducible repeat (first|apply Qe|apply Qg|apply Qd));exact BK104.out) hb);have n3_:=aM (Qi (by repeat (first|(with_reducible first|exact HB.out|apply Qc|apply Qa|apply Qb|refine Qf ?_ GE101.out|refine Qf ?_ GE102.out|refine Qf ?_ GE104.out)|exact HB.out)) hb);clear BK101;clear BK102;clear BK104;clear HB;have BK101:=n0_;have BK102:=n1_;have BK104:=n2_;have HB:=n3_;clear n0_ n1_ n2_ n3_;(try clear hb);(try clear hb2);(try clear hk);(try clear hi))|((with_reducible refine Qt (N:=7) rfl ?_);refine Qu ?hg (N:=7) ?hd (cs:=#[.int .i64 0,.int .i64 0]) (t:=61) ?hr ?_;(case hd=>rfl);(case hg=>rfl);(case hr=>first|(go_simp;done)|(go_simp;rfl));intro gb108 hg w24 hbox hb;have n0_:=aM (Qn (g:=gb101) (o:= .cells #[.int .i64 x102000_1,.int .i64 x102001_1] 61 (0,0)) (by (with_reducible repeat (first|apply Qe|apply Qg|apply Qd));exact BK101.out) hb);have n1_:=aM (Qn (g:=gb102) (o:= .cells #[.int .i64 x103000_1,.int .i64 x103001_1] 61 (0,0)) (by (with_reducible repeat (first|apply Qe|apply Qg|apply Qd));exact BK102.out) hb);have n2_:=aM (Qn (g:=gb104) (o:= .cells #[.int .i64 ((rd_T61 l0 x16_1).f0),.int .i64 ((rd_T61 l0 x16_1).f1)] 61 (0,0)) (by (with_reducible repeat (first|apply Qe|apply Qg|apply Qd));exact BK104.out) hb);have n3_:=aM (Qi (by repeat (first|(with_reducible first|exact HB.out|apply Qc|apply Qa|apply Qb|refine Qf ?_ GE101.out|refine Qf ?_ GE102.out|refine Qf ?_ GE104.out)|exact HB.out)) hb);have n4_:=aM (hbox);have n5_:=aM ((by rw [hg];exact (Qj (by repeat (first|(with_reducible first|exact HB.out|apply Qc|apply Qa|apply Qb|refine Qf ?_ GE101.out|refine Qf ?_ GE102.out|refine Qf ?_ GE104.out)|exact HB.out))):w.heap.size≤gb108));have n6_:=aM ((by rw [hg];exact (Qj (by repeat (first|(with_reducible first|exact HB.out|apply Qc|apply Qa|apply Qb|refine Qf ?_ GE101.out|refine Qf ?_ GE102.out|refine Qf ?_ GE104.out)|exact HB.out))):w.heap.size≤gb108));have n7_:=aM ((by rw [hg];exact Nat.ne_of_lt (blk_lt (g:=gb101) (o:= .cells #[.int .i64 x102000_1,.int .i64 x102001_1] 61 (0,0)) (by (with_reducible repeat (first|apply Qe|apply Qg|apply Qd));exact BK101.out)):gb101≠gb108));have n8_:=aM ((by rw [hg];exact Nat.ne_of_gt (blk_lt (g:=gb101) (o:= .cells #[.int .i64 x102000_1,.int .i64 x102001_1] 61 (0,0)) (by (with_reducible repeat (first|apply Qe|apply Qg|apply Qd));exact BK101.out)):gb108≠gb101));have n9_:=aM ((by rw [hg];exact Nat.ne_of_lt (blk_lt (g:=gb102) (o:= .cells #[.int .i64 x103000_1,.int .i64 x103001_1] 61 (0,0)) (by (with_reducible repeat (first|apply Qe|apply Qg|apply Qd));exact BK102.out)):gb102≠gb108));have n10_:=aM ((by rw [hg];exact Nat.ne_of_gt (blk_lt (g:=gb102) (o:= .cells #[.int .i64 x103000_1,.int .i64 x103001_1] 61 (0,0)) (by (with_reducible repeat (first|apply Qe|apply Qg|apply Qd));exact BK102.out)):gb108≠gb102));have n11_:=aM ((by rw [hg];exact Nat.ne_of_lt (blk_lt (g:=gb104) (o:= .cells #[.int .i64 ((rd_T61 l0 x16_1).f0),.int .i64 ((rd_T61 l0 x16_1).f1)] 61 (0,0)) (by (with_reducible repeat (first|apply Qe|apply Qg|apply Qd));exact BK104.out)):gb104≠gb108));have n12_:=aM ((by rw [hg];exact Nat.ne_of_gt (blk_lt (g:=gb104) (o:= .cells #[.int .i64 ((rd_T61 l0 x16_1).f0),.int .i64 ((rd_T61 l0 x16_1).f1)] 61 (0,0)) (by (with_reducible repeat (first|apply Qe|apply Qg|apply Qd));exact BK104.out)):gb108≠gb104));clear BK101;clear BK102;clear BK104;clear HB;have BK101:=n0_;have BK102:=n1_;have BK104:=n2_;have HB:=n3_;have BK108:=n4_;have GW108:=n5_;have GE108:=n6_;have NB101_108:=n7_;have NB108_101:=n8_;have NB102_108:=n9_;have NB108_102:=n10_;have NB104_108:=n11_;have NB108_104:=n12_;clear n0_ n1_ n2_ n3_ n4_ n5_ n6_ n7_ n8_ n9_ n10_ n11_ n12_;clear hb hbox hg;have hnb25:=NB108_101.out;have hnc25:=NB101_108.out;have hnb26:=NB108_102.out;have hnc26:=NB102_108.out;have hnb27:=NB108_104.out;have hnc27:=NB104_108.out;have hcz28_0:w24.cell? ⟨gb108,0,none⟩=some (.int .i64 0):=(Qk BK108.out 0).trans rfl;have hcz28_1:w24.cell? ⟨gb108,1,none⟩=some (.int .i64 0):=(Qk BK108.out 1).trans rfl;have hfz28_0:=Qh BK108.out 0;have hfz28_1:=Qh BK108.out 1;have hcz29_0:w24.cell? ⟨gb102,0,none⟩=some (.int .i64 x103000_1):=(Qk BK102.out 0).trans rfl;have hcz29_1:w24.cell? ⟨gb102,1,none⟩=some (.int .i64 x103001_1):=(Qk BK102.out 1).trans rfl;have hfz29_0:=Qh BK102.out 0;have hfz29_1:=Qh BK102.out 1))
         go_roundg k1
         case measure=>have:=HK1.out;omega
         case rel=>exact ⟨(wrap64 (x16_1+1)),(x102000_1),(x102001_1),(t105),(t106),(by first|rfl|(simp;done)|(simp [*];done)),H',⟨by have:=HK1.out;omega⟩,⟨by (with_reducible repeat (first|apply Qe|apply Qg|apply Qd));refine blk_far ?_ NB101_102.out _;(with_reducible repeat (first|apply Qe|apply Qg|apply Qd));refine blk_far ?_ NB101_102.out _;(with_reducible repeat (first|apply Qe|apply Qg|apply Qd));refine blk_far ?_ NB101_108.out _;(with_reducible repeat (first|apply Qe|apply Qg|apply Qd));refine blk_far ?_ NB101_108.out _;(with_reducible repeat (first|apply Qe|apply Qg|apply Qd));exact BK101.out⟩,⟨by (with_reducible repeat (first|apply Qe|apply Qg|apply Qd));refine Qv (cs:=#[.int .i64 t105,.int .i64 x103001_1]) ?_ 1 _ rfl;(with_reducible repeat (first|apply Qe|apply Qg|apply Qd));refine Qv (cs:=#[.int .i64 x103000_1,.int .i64 x103001_1]) ?_ 0 _ rfl;(with_reducible repeat (first|apply Qe|apply Qg|apply Qd));refine blk_far ?_ NB102_108.out _;(with_reducible repeat (first|apply Qe|apply Qg|apply Qd));refine blk_far ?_ NB102_108.out _;(with_reducible repeat (first|apply Qe|apply Qg|apply Qd));exact BK102.out⟩,⟨by repeat (first|(with_reducible first|exact HB.out|apply Qc|apply Qa|apply Qb|refine Qf ?_ GE101.out|refine Qf ?_ GE102.out|refine Qf ?_ GE104.out|refine Qf ?_ GE108.out)|exact HB.out)⟩⟩
        ·replace c16:=Bool.eq_false_iff.mpr c16;subst c16;have H1:(some (0,0,false))=some (r1,r2,r3):=by rw [if_neg (show ¬ (false=true) by decide)] at H;exact H
         clear H;have H:=H1;clear H1;simp only [Option.some.injEq,Prod.mk.injEq] at H;obtain ⟨rfl,rfl,rfl⟩:=H;have p103:0≤(x16_1:Int):=of_decide_eq_true (by first|(with_reducible assumption)|assumption);have q103:x16_1<(l0.length:Int):=of_decide_eq_true (by first|(with_reducible assumption)|assumption);obtain ⟨ad103,e103,hx103_0,hx103_1⟩:=at_T61 HR0.out x16_1 p103 q103
         cases e103
         replace hx103_0:=(HB.out.cell (aI w _ hx103_0)).trans hx103_0;replace hx103_1:=(HB.out.cell (aI w _ hx103_1)).trans hx103_1;replace p103:=eq_true p103;replace q103:=eq_true q103;go_wp2_with (first|((with_reducible refine Qt (N:=6) rfl ?_);refine Qu ?hg (N:=6) ?hd (cs:=#[.int .i64 0,.int .i64 0]) (t:=61) ?hr ?_;(case hd=>rfl);(case hg=>rfl);(case hr=>first|(go_simp;done)|(go_simp;rfl));intro gb104 hg w30 hbox hb;have n0_:=aM (Qn (g:=gb101) (o:= .cells #[.int .i64 x102000_1,.int .i64 x102001_1] 61 (0,0)) (by (with_reducible repeat (first|apply Qe|apply Qg|apply Qd));exact BK101.out) hb);have n1_:=aM (Qn (g:=gb102) (o:= .cells #[.int .i64 x103000_1,.int .i64 x103001_1] 61 (0,0)) (by (with_reducible repeat (first|apply Qe|apply Qg|apply Qd));exact BK102.out) hb);have n2_:=aM (Qi (by repeat (first|(with_reducible first|exact HB.out|apply Qc|apply Qa|apply Qb|refine Qf ?_ GE101.out|refine Qf ?_ GE102.out)|exact HB.out)) hb);have n3_:=aM (hbox);have n4_:=aM ((by rw [hg];exact (Qj (by repeat (first|(with_reducible first|exact HB.out|apply Qc|apply Qa|apply Qb|refine Qf ?_ GE101.out|refine Qf ?_ GE102.out)|exact HB.out))):w.heap.size≤gb104));have n5_:=aM ((by rw [hg];exact (Qj (by repeat (first|(with_reducible first|exact HB.out|apply Qc|apply Qa|apply Qb|refine Qf ?_ GE101.out|refine Qf ?_ GE102.out)|exact HB.out))):w.heap.size≤gb104));have n6_:=aM ((by rw [hg];exact Nat.ne_of_lt (blk_lt (g:=gb101) (o:= .cells #[.int .i64 x102000_1,.int .i64 x102001_1] 61 (0,0)) (by (with_reducible repeat (first|apply Qe|apply Qg|apply Qd));exact BK101.out)):gb101≠gb104));have n7_:=aM ((by rw [hg];exact Nat.ne_of_gt (blk_lt (g:=gb101) (o:= .cells #[.int .i64 x102000_1,.int .i64 x102001_1] 61 (0,0)) (by (with_reducible repeat (first|apply Qe|apply Qg|apply Qd));exact BK101.out)):gb104≠gb101));have n8_:=aM ((by rw [hg];exact Nat.ne_of_lt (blk_lt (g:=gb102) (o:= .cells #[.int .i64 x103000_1,.int .i64 x103001_1] 61 (0,0)) (by (with_reducible repeat (first|apply Qe|apply Qg|apply Qd));exact BK102.out)):gb102≠gb104));have n9_:=aM ((by rw [hg];exact Nat.ne_of_gt (blk_lt (g:=gb102) (o:= .cells #[.int .i64 x103000_1,.int .i64 x103001_1] 61 (0,0)) (by (with_reducible repeat (first|apply Qe|apply Qg|apply Qd));exact BK102.out)):gb104≠gb102));clear BK101;clear BK102;clear HB;have BK101:=n0_;have BK102:=n1_;have HB:=n2_;have BK104:=n3_;have GW104:=n4_;have GE104:=n5_;have NB101_104:=n6_;have NB104_101:=n7_;have NB102_104:=n8_;have NB104_102:=n9_;clear n0_ n1_ n2_ n3_ n4_ n5_ n6_ n7_ n8_ n9_;clear hb hbox hg;have hnb31:=NB104_101.out;have hnc31:=NB101_104.out;have hnb32:=NB104_102.out;have hnc32:=NB102_104.out;have hcz33_0:w30.cell? ⟨gb104,0,none⟩=some (.int .i64 0):=(Qk BK104.out 0).trans rfl;have hcz33_1:w30.cell? ⟨gb104,1,none⟩=some (.int .i64 0):=(Qk BK104.out 1).trans rfl;have hfz33_0:=Qh BK104.out 0;have hfz33_1:=Qh BK104.out 1;have hnb34:=NB102_101.out;have hnc34:=NB101_102.out;have hcz35_0:w30.cell? ⟨gb102,0,none⟩=some (.int .i64 x103000_1):=(Qk BK102.out 0).trans rfl;have hcz35_1:w30.cell? ⟨gb102,1,none⟩=some (.int .i64 x103001_1):=(Qk BK102.out 1).trans rfl;have hfz35_0:=Qh BK102.out 0;have hfz35_1:=Qh BK102.out 1)|((with_reducible refine Qo (f:=251) rfl ?_);refine goesL_ (some 23) rfl rfl Try.func251 (by kernel_rfl) rfl #[.agg #[.int .i64 x103000_1,.int .i64 x103001_1],.agg #[.int .i64 ((rd_T61 l0 x16_1).f0),.int .i64 ((rd_T61 l0 x16_1).f1)]] rfl (by (try simp only [aD,aE,aF]);first|done|rfl|(simp only [aG,aH];rfl)) ?_;(with_reducible refine (spec_AddFrac.calls k1 x103000_1 x103001_1 ((rd_T61 l0 x16_1).f0) ((rd_T61 l0 x16_1).f1) t105 t106 false _ A15.out).mono ?_);rintro e w36 ⟨rfl,hb⟩;refine ⟨_,rfl,?_⟩;have n0_:=aM (Qn (g:=gb101) (o:= .cells #[.int .i64 x102000_1,.int .i64 x102001_1] 61 (0,0)) (by (with_reducible repeat (first|apply Qe|apply Qg|apply Qd));refine blk_far ?_ NB101_104.out _;(with_reducible repeat (first|apply Qe|apply Qg|apply Qd));refine blk_far ?_ NB101_104.out _;(with_reducible repeat (first|apply Qe|apply Qg|apply Qd));exact BK101.out) hb);have n1_:=aM (Qn (g:=gb102) (o:= .cells #[.int .i64 x103000_1,.int .i64 x103001_1] 61 (0,0)) (by (with_reducible repeat (first|apply Qe|apply Qg|apply Qd));refine blk_far ?_ NB102_104.out _;(with_reducible repeat (first|apply Qe|apply Qg|apply Qd));refine blk_far ?_ NB102_104.out _;(with_reducible repeat (first|apply Qe|apply Qg|apply Qd));exact BK102.out) hb);have n2_:=aM (Qn (g:=gb104) (o:= .cells #[.int .i64 ((rd_T61 l0 x16_1).f0),.int .i64 ((rd_T61 l0 x16_1).f1)] 61 (0,0)) (by (with_reducible repeat (first|apply Qe|apply Qg|apply Qd));refine Qv (cs:=#[.int .i64 ((rd_T61 l0 x16_1).f0),.int .i64 0]) ?_ 1 _ rfl;(with_reducible repeat (first|apply Qe|apply Qg|apply Qd));refine Qv (cs:=#[.int .i64 0,.int .i64 0]) ?_ 0 _ rfl;(with_reducible repeat (first|apply Qe|apply Qg|apply Qd));exact BK104.out) hb);have n3_:=aM (Qi (by repeat (first|(with_reducible first|exact HB.out|apply Qc|apply Qa|apply Qb|refine Qf ?_ GE101.out|refine Qf ?_ GE102.out|refine Qf ?_ GE104.out)|exact HB.out)) hb);clear BK101;clear BK102;clear BK104;clear HB;have BK101:=n0_;have BK102:=n1_;have BK104:=n2_;have HB:=n3_;clear n0_ n1_ n2_ n3_;(try clear hb);(try clear hb2);(try clear hk);(try clear hi))|((with_reducible refine Qt (N:=7) rfl ?_);refine Qu ?hg (N:=7) ?hd (cs:=#[.int .i64 0,.int .i64 0]) (t:=61) ?hr ?_;(case hd=>rfl);(case hg=>rfl);(case hr=>first|(go_simp;done)|(go_simp;rfl));intro gb108 hg w37 hbox hb;have n0_:=aM (Qn (g:=gb101) (o:= .cells #[.int .i64 x102000_1,.int .i64 x102001_1] 61 (0,0)) (by (with_reducible repeat (first|apply Qe|apply Qg|apply Qd));exact BK101.out) hb);have n1_:=aM (Qn (g:=gb102) (o:= .cells #[.int .i64 x103000_1,.int .i64 x103001_1] 61 (0,0)) (by (with_reducible repeat (first|apply Qe|apply Qg|apply Qd));exact BK102.out) hb);have n2_:=aM (Qn (g:=gb104) (o:= .cells #[.int .i64 ((rd_T61 l0 x16_1).f0),.int .i64 ((rd_T61 l0 x16_1).f1)] 61 (0,0)) (by (with_reducible repeat (first|apply Qe|apply Qg|apply Qd));exact BK104.out) hb);have n3_:=aM (Qi (by repeat (first|(with_reducible first|exact HB.out|apply Qc|apply Qa|apply Qb|refine Qf ?_ GE101.out|refine Qf ?_ GE102.out|refine Qf ?_ GE104.out)|exact HB.out)) hb);have n4_:=aM (hbox);have n5_:=aM ((by rw [hg];exact (Qj (by repeat (first|(with_reducible first|exact HB.out|apply Qc|apply Qa|apply Qb|refine Qf ?_ GE101.out|refine Qf ?_ GE102.out|refine Qf ?_ GE104.out)|exact HB.out))):w.heap.size≤gb108));have n6_:=aM ((by rw [hg];exact (Qj (by repeat (first|(with_reducible first|exact HB.out|apply Qc|apply Qa|apply Qb|refine Qf ?_ GE101.out|refine Qf ?_ GE102.out|refine Qf ?_ GE104.out)|exact HB.out))):w.heap.size≤gb108));have n7_:=aM ((by rw [hg];exact Nat.ne_of_lt (blk_lt (g:=gb101) (o:= .cells #[.int .i64 x102000_1,.int .i64 x102001_1] 61 (0,0)) (by (with_reducible repeat (first|apply Qe|apply Qg|apply Qd));exact BK101.out)):gb101≠gb108));have n8_:=aM ((by rw [hg];exact Nat.ne_of_gt (blk_lt (g:=gb101) (o:= .cells #[.int .i64 x102000_1,.int .i64 x102001_1] 61 (0,0)) (by (with_reducible repeat (first|apply Qe|apply Qg|apply Qd));exact BK101.out)):gb108≠gb101));have n9_:=aM ((by rw [hg];exact Nat.ne_of_lt (blk_lt (g:=gb102) (o:= .cells #[.int .i64 x103000_1,.int .i64 x103001_1] 61 (0,0)) (by (with_reducible repeat (first|apply Qe|apply Qg|apply Qd));exact BK102.out)):gb102≠gb108));have n10_:=aM ((by rw [hg];exact Nat.ne_of_gt (blk_lt (g:=gb102) (o:= .cells #[.int .i64 x103000_1,.int .i64 x103001_1] 61 (0,0)) (by (with_reducible repeat (first|apply Qe|apply Qg|apply Qd));exact BK102.out)):gb108≠gb102));have n11_:=aM ((by rw [hg];exact Nat.ne_of_lt (blk_lt (g:=gb104) (o:= .cells #[.int .i64 ((rd_T61 l0 x16_1).f0),.int .i64 ((rd_T61 l0 x16_1).f1)] 61 (0,0)) (by (with_reducible repeat (first|apply Qe|apply Qg|apply Qd));exact BK104.out)):gb104≠gb108));have n12_:=aM ((by rw [hg];exact Nat.ne_of_gt (blk_lt (g:=gb104) (o:= .cells #[.int .i64 ((rd_T61 l0 x16_1).f0),.int .i64 ((rd_T61 l0 x16_1).f1)] 61 (0,0)) (by (with_reducible repeat (first|apply Qe|apply Qg|apply Qd));exact BK104.out)):gb108≠gb104));clear BK101;clear BK102;clear BK104;clear HB;have BK101:=n0_;have BK102:=n1_;have BK104:=n2_;have HB:=n3_;have BK108:=n4_;have GW108:=n5_;have GE108:=n6_;have NB101_108:=n7_;have NB108_101:=n8_;have NB102_108:=n9_;have NB108_102:=n10_;have NB104_108:=n11_;have NB108_104:=n12_;clear n0_ n1_ n2_ n3_ n4_ n5_ n6_ n7_ n8_ n9_ n10_ n11_ n12_;clear hb hbox hg;have hnb38:=NB108_101.out;have hnc38:=NB101_108.out;have hnb39:=NB108_102.out;have hnc39:=NB102_108.out;have hnb40:=NB108_104.out;have hnc40:=NB104_108.out;have hcz41_0:w37.cell? ⟨gb108,0,none⟩=some (.int .i64 0):=(Qk BK108.out 0).trans rfl;have hcz41_1:w37.cell? ⟨gb108,1,none⟩=some (.int .i64 0):=(Qk BK108.out 1).trans rfl;have hfz41_0:=Qh BK108.out 0;have hfz41_1:=Qh BK108.out 1;have hcz42_0:w37.cell? ⟨gb101,0,none⟩=some (.int .i64 x102000_1):=(Qk BK101.out 0).trans rfl;have hcz42_1:w37.cell? ⟨gb101,1,none⟩=some (.int .i64 x102001_1):=(Qk BK101.out 1).trans rfl;have hfz42_0:=Qh BK101.out 0;have hfz42_1:=Qh BK101.out 1))
         refine bodyPost_ret (results_ct rfl _ _ gb101 61 #[.int .i64 0,.int .i64 0] (0,0) _ rfl (by (with_reducible repeat (first|apply Qe|apply Qg|apply Qd));refine Qv (cs:=#[.int .i64 0,.int .i64 x102001_1]) ?_ 1 _ rfl;(with_reducible repeat (first|apply Qe|apply Qg|apply Qd));refine Qv (cs:=#[.int .i64 x102000_1,.int .i64 x102001_1]) ?_ 0 _ rfl;(with_reducible repeat (first|apply Qe|apply Qg|apply Qd));refine blk_far ?_ NB101_108.out _;(with_reducible repeat (first|apply Qe|apply Qg|apply Qd));refine blk_far ?_ NB101_108.out _;(with_reducible repeat (first|apply Qe|apply Qg|apply Qd));exact BK101.out) Try.underlying61 rfl (by kernel_rfl)) rfl ?_;exact ⟨by first|rfl|(simp [errW_none,errW_some] <;> rfl)|(simp [*,errW_none,errW_some] <;> rfl),by repeat (first|(with_reducible first|exact HB.out|apply Qc|apply Qa|apply Qb|refine Qf ?_ GE101.out|refine Qf ?_ GE102.out|refine Qf ?_ GE104.out|refine Qf ?_ GE108.out)|exact HB.out)⟩
       ·rw [if_neg c14] at H;exact absurd H (by simp)
      ·rw [if_neg c13] at H;exact absurd H (by simp)
     ·rw [if_neg c12] at H;have c12b0:decide (x16_1<(l0.length:Int))=false:=decide_eq_false c12;clear c12;simp only [Option.some.injEq,Prod.mk.injEq] at H;obtain ⟨rfl,rfl,rfl⟩:=H;have hnb43:=NB102_101.out;have hnc43:=NB101_102.out;have hcz44_0:wr.cell? ⟨gb102,0,none⟩=some (.int .i64 x103000_1):=(Qk BK102.out 0).trans rfl;have hcz44_1:wr.cell? ⟨gb102,1,none⟩=some (.int .i64 x103001_1):=(Qk BK102.out 1).trans rfl;have hfz44_0:=Qh BK102.out 0;have hfz44_1:=Qh BK102.out 1;have hcz45_0:wr.cell? ⟨gb101,0,none⟩=some (.int .i64 x102000_1):=(Qk BK101.out 0).trans rfl;have hcz45_1:wr.cell? ⟨gb101,1,none⟩=some (.int .i64 x102001_1):=(Qk BK101.out 1).trans rfl;have hfz45_0:=Qh BK101.out 0;have hfz45_1:=Qh BK101.out 1;go_wp2;refine bodyPost_ret (results_ct rfl _ _ gb101 61 #[.int .i64 x103000_1,.int .i64 x103001_1] (0,0) _ rfl (by (with_reducible repeat (first|apply Qe|apply Qg|apply Qd));refine Qv (cs:=#[.int .i64 x103000_1,.int .i64 x102001_1]) ?_ 1 _ rfl;(with_reducible repeat (first|apply Qe|apply Qg|apply Qd));refine Qv (cs:=#[.int .i64 x102000_1,.int .i64 x102001_1]) ?_ 0 _ rfl;(with_reducible repeat (first|apply Qe|apply Qg|apply Qd));exact BK101.out) Try.underlying61 rfl (by kernel_rfl)) rfl ?_;exact ⟨by first|rfl|(simp [errW_none,errW_some] <;> rfl)|(simp [*,errW_none,errW_some] <;> rfl),by repeat (first|(with_reducible first|exact HB.out|apply Qc|apply Qa|apply Qb|refine Qf ?_ GE101.out|refine Qf ?_ GE102.out)|exact HB.out)⟩

def spec_CostOf.l0:Nat→List Int→List (S61)→List Int→Int→Int→Option (Int×Int×Bool)
  |0,_,_,_,_,_=>none
  |k+1,x1,x6,x14,x15,x16=>if x16<x15 then (if 0≤x16 then (if x16<(x14.length:Int) then (if x16<(x1.length:Int) then ((spec_l1Make.f k (rd x14 x16) (rd x1 x16)).bind fun bt105=>(if x6.length<8796093022208 then (spec_CostOf.l0 k x1 (x6 ++ [(⟨bt105.1,bt105.2⟩:S61)]) x14 x15 (wrap64 (x16+1))) else (none))) else (none)) else (none)) else (none)) else ((spec_SumFracs.f k x6).bind fun bt110=>(some (bt110.1,bt110.2.1,bt110.2.2)))
def spec_CostOf.f (k:Nat) (l0:List Int) (l1:List Int):Option (Int×Int×Bool):=(spec_l4Counts.f k l0 l1).bind fun t102=>(if t102=true then (spec_CostOf.l0 k l1 ([]:List (S61)) l0 (l0.length:Int) 0) else (some (0,0,false)))
set_option maxHeartbeats 8000000 in
set_option maxRecDepth 100000 in
theorem spec_CostOf.calls (k:Nat) (A0:Option Addr) (c0:Nat) (l0:List Int) (A1:Option Addr) (c1:Nat) (l1:List Int) (r1:Int) (r2:Int) (r3:Bool) (w:World) (hr0:Kd.C (Kd.int .i64) w A0 l0.length l0) (hc0:l0.length≤c0) (hr1:Kd.C (Kd.int .i64) w A1 l1.length l1) (hc1:l1.length≤c1) (h:spec_CostOf.f k l0 l1=some (r1,r2,r3)) :
    Calls Try.prog 85 #[.slice A0 l0.length c0,.slice A1 l1.length c1] w fun e w'=>e= .returned (.tuple #[.agg #[.int .i64 r1,.int .i64 r2],.bool r3])∧Below w.heap.size w w':=by
  have hu61:=Try.underlying61;have HR0:=aM hr0;have HC0:=aM hc0;clear hr0 hc0;have HR1:=aM hr1;have HC1:=aM hc1;clear hr1 hc1;have HB:=aM (Below.refl w.heap.size w);have H:((spec_l4Counts.f k l0 l1).bind fun t102=>(if t102=true then (spec_CostOf.l0 k l1 ([]:List (S61)) l0 (l0.length:Int) 0) else (some (0,0,false))))=some (r1,r2,r3):=h;clear h;replace H:=Option.bind_eq_some_iff.mp H;obtain ⟨t102,A30,H⟩:=H;replace H:(if t102=true then (spec_CostOf.l0 k l1 ([]:List (S61)) l0 (l0.length:Int) 0) else (some (0,0,false)))=some (r1,r2,r3):=H;have A3:=aM A30;clear A30;by_cases c4:t102=true
  ·subst c4;have H1:(spec_CostOf.l0 k l1 ([]:List (S61)) l0 (l0.length:Int) 0)=some (r1,r2,r3):=by rw [if_pos rfl] at H;exact H
   clear H;have H:=H1;clear H1;have H':=aM H;clear H;go_enter Try.func85,Try.ntmps85;go_wp2_with (first|((with_reducible refine Qt (N:=4) rfl ?_);refine Qu ?hg (N:=4) ?hd (cs:=#[.int .i64 0,.int .i64 0]) (t:=61) ?hr ?_;(case hd=>rfl);(case hg=>rfl);(case hr=>first|(go_simp;done)|(go_simp;rfl));intro gb101 hg w5 hbox hb;have n0_:=aM (Qi (by repeat (first|(with_reducible first|exact HB.out|apply Qc|apply Qa|apply Qb)|exact HB.out)) hb);have n1_:=aM (hbox);have n2_:=aM ((by rw [hg];exact (Qj (by repeat (first|(with_reducible first|exact HB.out|apply Qc|apply Qa|apply Qb)|exact HB.out))):w.heap.size≤gb101));have n3_:=aM ((by rw [hg];exact (Qj (by repeat (first|(with_reducible first|exact HB.out|apply Qc|apply Qa|apply Qb)|exact HB.out))):w.heap.size≤gb101));clear HB;have HB:=n0_;have BK101:=n1_;have GW101:=n2_;have GE101:=n3_;clear n0_ n1_ n2_ n3_;clear hb hbox hg)|((with_reducible refine Qo (f:=200) rfl ?_);refine goesL_ (some 11) rfl rfl Try.func200 (by kernel_rfl) rfl #[.slice A0 l0.length c0,.slice A1 l1.length c1] rfl (by (try simp only [aD,aE,aF]);first|done|rfl|(simp only [aG,aH];rfl)) ?_;(with_reducible refine (spec_l4Counts.calls k _ _ l0 _ _ l1 true _ ?side1 ?side2 ?side3 ?side4 A3.out).mono ?_);(case side1=>repeat (first|exact (Kd.C_below HR0.out HB.out)|(with_reducible refine Kd.Qr ?_ _)|(with_reducible refine Kd.Qs ?_ _)|(with_reducible refine Kd.C_drew ?_)));(case side2=>exact HC0.out);(case side3=>repeat (first|exact (Kd.C_below HR1.out HB.out)|(with_reducible refine Kd.Qr ?_ _)|(with_reducible refine Kd.Qs ?_ _)|(with_reducible refine Kd.C_drew ?_)));(case side4=>exact HC1.out);rintro e w' ⟨rfl,⟨nd,rfl⟩⟩;refine ⟨_,rfl,?_⟩))
   go_loopg [6,16] k (fun kq v6 v16 w'=>∃ (x6_1:List (S61)) (x16_1:Int),v16= .int .i64 x16_1∧Aside0 (spec_CostOf.l0 kq l1 x6_1 l0 (l0.length:Int) x16_1=some (r1,r2,r3))∧Aside0 (kq≤k)∧Aside0 (Kd.R k61 61 w' w.heap.size (fun k_=>k_≠gb101) v6 x6_1)∧Aside0 (w'.heap[gb101]? = some (.cells #[.int .i64 0,.int .i64 0] 61 (0,0)))∧Aside0 (Below w.heap.size w w'))
   case atStart=>exact ⟨(([]:List (S61))),(0),(by first|rfl|(simp;done)|(simp [*];done)),H',⟨Nat.le_refl _⟩,⟨by first|exact Kd.R_nil _ _ _ _ _|exact Kd.N_nil _ _ _ _ _|exact Kd.V_nil _ _ _ _ _|exact Kd.Q_nil _ _ _ _ _|exact Kd.S_nil _ _ _ _ _⟩,⟨by (with_reducible repeat (first|apply Qe|apply Qg|apply Qd));exact BK101.out⟩,⟨by repeat (first|(with_reducible first|exact HB.out|apply Qc|apply Qa|apply Qb|refine Qf ?_ GE101.out)|exact HB.out)⟩⟩
   case round=>
    clear H';(try clear c1);(try clear c2);(try clear p2);(try clear c4);obtain ⟨x6_1,x16_1,rfl,HA,HK1,HO_6,BK101,HB⟩:=hrel
    cases gk with
    |zero=>exact absurd HA.out (by simp [spec_CostOf.l0])
    |succ k1=>
     have H:=HA.out;clear HA;simp only [spec_CostOf.l0] at H;by_cases c6:x16_1<(l0.length:Int)
     ·rw [if_pos c6] at H;have c6b0:decide (x16_1<(l0.length:Int))=true:=decide_eq_true c6;clear c6;by_cases c7:0≤x16_1
      ·rw [if_pos c7] at H;have c7b0:decide (0≤x16_1)=true:=decide_eq_true c7;clear c7;by_cases c8:x16_1<(l0.length:Int)
       ·rw [if_pos c8] at H;have c8b0:decide (x16_1<(l0.length:Int))=true:=decide_eq_true c8;clear c8;by_cases c9:x16_1<(l1.length:Int)
        ·rw [if_pos c9] at H;have c9b0:decide (x16_1<(l1.length:Int))=true:=decide_eq_true c9;clear c9;replace H:=Option.bind_eq_some_iff.mp H;obtain ⟨⟨t105,t106⟩,A100,H⟩:=H;replace H:(if x6_1.length<8796093022208 then (spec_CostOf.l0 k1 l1 (x6_1 ++ [(⟨t105,t106⟩:S61)]) l0 (l0.length:Int) (wrap64 (x16_1+1))) else (none))=some (r1,r2,r3):=H;have A10:=aM A100;clear A100;by_cases c11:x6_1.length<8796093022208
         ·rw [if_pos c11] at H;have LMc11:=aM c11;clear c11;obtain ⟨y107,hy107⟩:∃ y_:List (S61),y_=(x6_1 ++ [(⟨t105,t106⟩:S61)]):=⟨_,rfl⟩;replace H:(spec_CostOf.l0 k1 l1 y107 l0 (l0.length:Int) (wrap64 (x16_1+1)))=some (r1,r2,r3):=by first|(rw [hy107];with_reducible exact H)|(have H2_:=(Option.bind_some _ _).symm.trans H;rw [hy107];with_reducible exact H2_)|(have H2_:=(Option.bind_some _ _).symm.trans H;with_reducible exact H2_)|with_reducible exact H|(rw [hy107];exact H)|exact H
          have Ny107:=aM hy107;clear hy107;have H':=aM H;clear H;have p103:0≤(x16_1:Int):=of_decide_eq_true (by first|(with_reducible assumption)|assumption);have q103:x16_1<(l0.length:Int):=of_decide_eq_true (by first|(with_reducible assumption)|assumption);obtain ⟨ad103,e103,hx103_0⟩:=Kd.at_int HR0.out x16_1 p103 q103
          cases e103
          replace hx103_0:=(HB.out.cell (aI w _ hx103_0)).trans hx103_0;replace p103:=eq_true p103;replace q103:=eq_true q103;have p104:0≤(x16_1:Int):=of_decide_eq_true (by first|(with_reducible assumption)|assumption);have q104:x16_1<(l1.length:Int):=of_decide_eq_true (by first|(with_reducible assumption)|assumption);obtain ⟨ad104,e104,hx104_0⟩:=Kd.at_int HR1.out x16_1 p104 q104
          cases e104
          replace hx104_0:=(HB.out.cell (aI w _ hx104_0)).trans hx104_0;replace p104:=eq_true p104;replace q104:=eq_true q104;go_wp2_with (first|((with_reducible refine Qo (f:=191) rfl ?_);refine goesL_ (some 27) rfl rfl Try.func191 (by kernel_rfl) rfl #[.int .i64 (rd l0 x16_1),.int .i64 (rd l1 x16_1)] rfl (by (try simp only [aD,aE,aF]);first|done|rfl|(simp only [aG,aH];rfl)) ?_;(with_reducible refine (spec_l1Make.calls k1 (rd l0 x16_1) (rd l1 x16_1) t105 t106 _ A10.out).mono ?_);rintro e w12 ⟨rfl,hb⟩;refine ⟨_,rfl,?_⟩;have n0_:=aM (Kd.Qq (by (with_reducible repeat (first|apply Kd.Ql|apply Kd.Qm|apply Kd.R_drew));exact HO_6.out) hb);have n1_:=aM (Qn (g:=gb101) (o:= .cells #[.int .i64 0,.int .i64 0] 61 (0,0)) (by (with_reducible repeat (first|apply Qe|apply Qg|apply Qd));exact BK101.out) hb);have n2_:=aM (Qi (by repeat (first|(with_reducible first|exact HB.out|apply Qc|apply Qa|apply Qb|refine Qf ?_ GE101.out)|exact HB.out)) hb);clear HO_6;clear BK101;clear HB;have HO_6:=n0_;have BK101:=n1_;have HB:=n2_;clear n0_ n1_ n2_;(try clear hb);(try clear hb2);(try clear hk);(try clear hi))|((with_reducible refine gate_builtin (b:= .append) (xs:=#[.tmp 21,.tmp 28]) rfl ?_);at_builtin;refine Kd.R_append k61 (w0:=w) w.heap.size rfl (.tmp 21) (.tmp 28) 166 61 (.agg #[(.int .i64 0),(.int .i64 0)]) 16 rfl Try.underlying166 info61 rfl (by decide) (by omega) u6 x6_1 (⟨t105,t106⟩:S61) [.int .i64 t105,.int .i64 t106] (fun k_=>k_≠gb101) (fun _=>False) rfl rfl ?aP (fun _ hk=>hk.elim) ?aF ?aO ?aB ?aS ?aL ?_;(case aP=>exact k61_mkM _ _ _ (⟨t105,t106⟩:S61));(case aB=>exact (by repeat (first|(with_reducible first|exact HB.out|apply Qc|apply Qa|apply Qb|refine Qf ?_ GE101.out)|exact HB.out)));(case aF=>exact (fun k_ hk=>Kd.freshB (g:=gb101) (o:= .cells #[.int .i64 0,.int .i64 0] 61 (0,0)) (by (with_reducible repeat (first|apply Qe|apply Qg|apply Qd));exact BK101.out) k_ hk));(case aO=>exact (by (with_reducible repeat (first|apply Kd.Ql|apply Kd.Qm|apply Kd.R_drew));exact HO_6.out));(case aS=>exact (Qj (by repeat (first|(with_reducible first|exact HB.out|apply Qc|apply Qa|apply Qb|refine Qf ?_ GE101.out)|exact HB.out))));(case aL=>have:=LMc11.out;omega);intro v108 w13 ho hb hg hat;rw [←Ny107.out] at ho;have n0_:=aM (blk_grown (g:=gb101) (o:= .cells #[.int .i64 0,.int .i64 0] 61 (0,0)) (by (with_reducible repeat (first|apply Qe|apply Qg|apply Qd));exact BK101.out) hg (Kd.R_away HO_6.out (fun _ hk=>hk)));have n1_:=aM (hb);have n2_:=aM (ho);clear BK101;clear HB;clear HO_6;have BK101:=n0_;have HB:=n1_;have HO109:=n2_;clear n0_ n1_ n2_;clear ho hb hg hat))
          go_roundg k1
          case measure=>have:=HK1.out;omega
          case rel=>exact ⟨(y107),(wrap64 (x16_1+1)),(by first|rfl|(simp;done)|(simp [*];done)),H',⟨by have:=HK1.out;omega⟩,⟨by (with_reducible repeat (first|apply Kd.Ql|apply Kd.Qm|apply Kd.R_drew));exact HO109.out⟩,⟨by (with_reducible repeat (first|apply Qe|apply Qg|apply Qd));exact BK101.out⟩,⟨by repeat (first|(with_reducible first|exact HB.out|apply Qc|apply Qa|apply Qb|refine Qf ?_ GE101.out)|exact HB.out)⟩⟩
         ·rw [if_neg c11] at H;exact absurd H (by simp)
        ·rw [if_neg c9] at H;exact absurd H (by simp)
       ·rw [if_neg c8] at H;exact absurd H (by simp)
      ·rw [if_neg c7] at H;exact absurd H (by simp)
     ·rw [if_neg c6] at H;have c6b0:decide (x16_1<(l0.length:Int))=false:=decide_eq_false c6;clear c6;replace H:=Option.bind_eq_some_iff.mp H;obtain ⟨⟨t110,t111,t112⟩,A140,H⟩:=H;replace H:(some (t110,t111,t112))=some (r1,r2,r3):=H;have A14:=aM A140;clear A140;simp only [Option.some.injEq,Prod.mk.injEq] at H;obtain ⟨rfl,rfl,rfl⟩:=H;obtain ⟨Ao15,co15,eo15⟩:=Kd.R_slice HO_6.out;subst eo15;go_wp2_with (first|((with_reducible refine Qo (f:=192) rfl ?_);refine goesL_ (some 32) rfl rfl Try.func192 (by kernel_rfl) rfl #[.slice Ao15 x6_1.length co15] rfl (by (try simp only [aD,aE,aF]);first|done|rfl|(simp only [aG,aH];rfl)) ?_;(with_reducible refine (spec_SumFracs.calls k1 _ _ x6_1 t110 t111 t112 _ ?side1 ?side2 A14.out).mono ?_);(case side1=>repeat (first|exact (Kd.Qp HO_6.out).2.2|(with_reducible refine Kd.Qr ?_ _)|(with_reducible refine Kd.Qs ?_ _)|(with_reducible refine Kd.C_drew ?_)));(case side2=>exact (Kd.Qp HO_6.out).2.1);rintro e w16 ⟨rfl,hb⟩;refine ⟨_,rfl,?_⟩;have n0_:=aM (Kd.Qq (by (with_reducible repeat (first|apply Kd.Ql|apply Kd.Qm|apply Kd.R_drew));exact HO_6.out) hb);have n1_:=aM (Qn (g:=gb101) (o:= .cells #[.int .i64 0,.int .i64 0] 61 (0,0)) (by (with_reducible repeat (first|apply Qe|apply Qg|apply Qd));exact BK101.out) hb);have n2_:=aM (Qi (by repeat (first|(with_reducible first|exact HB.out|apply Qc|apply Qa|apply Qb|refine Qf ?_ GE101.out)|exact HB.out)) hb);clear HO_6;clear BK101;clear HB;have HO_6:=n0_;have BK101:=n1_;have HB:=n2_;clear n0_ n1_ n2_;(try clear hb);(try clear hb2);(try clear hk);(try clear hi);have hcz17_0:w16.cell? ⟨gb101,0,none⟩=some (.int .i64 0):=(Qk BK101.out 0).trans rfl;have hcz17_1:w16.cell? ⟨gb101,1,none⟩=some (.int .i64 0):=(Qk BK101.out 1).trans rfl;have hfz17_0:=Qh BK101.out 0;have hfz17_1:=Qh BK101.out 1))
      refine bodyPost_ret (results_ct rfl _ _ gb101 61 #[.int .i64 t110,.int .i64 t111] (0,0) _ rfl (by (with_reducible repeat (first|apply Qe|apply Qg|apply Qd));refine Qv (cs:=#[.int .i64 t110,.int .i64 0]) ?_ 1 _ rfl;(with_reducible repeat (first|apply Qe|apply Qg|apply Qd));refine Qv (cs:=#[.int .i64 0,.int .i64 0]) ?_ 0 _ rfl;(with_reducible repeat (first|apply Qe|apply Qg|apply Qd));exact BK101.out) Try.underlying61 rfl (by kernel_rfl)) rfl ?_;exact ⟨by first|rfl|(simp [errW_none,errW_some] <;> rfl)|(simp [*,errW_none,errW_some] <;> rfl),by repeat (first|(with_reducible first|exact HB.out|apply Qc|apply Qa|apply Qb|refine Qf ?_ GE101.out)|exact HB.out)⟩
  ·replace c4:=Bool.eq_false_iff.mpr c4;subst c4;have H1:(some (0,0,false))=some (r1,r2,r3):=by rw [if_neg (show ¬ (false=true) by decide)] at H;exact H
   clear H;have H:=H1;clear H1;simp only [Option.some.injEq,Prod.mk.injEq] at H;obtain ⟨rfl,rfl,rfl⟩:=H;go_enter Try.func85,Try.ntmps85;go_wp2_with (first|((with_reducible refine Qt (N:=4) rfl ?_);refine Qu ?hg (N:=4) ?hd (cs:=#[.int .i64 0,.int .i64 0]) (t:=61) ?hr ?_;(case hd=>rfl);(case hg=>rfl);(case hr=>first|(go_simp;done)|(go_simp;rfl));intro gb101 hg w18 hbox hb;have n0_:=aM (Qi (by repeat (first|(with_reducible first|exact HB.out|apply Qc|apply Qa|apply Qb)|exact HB.out)) hb);have n1_:=aM (hbox);have n2_:=aM ((by rw [hg];exact (Qj (by repeat (first|(with_reducible first|exact HB.out|apply Qc|apply Qa|apply Qb)|exact HB.out))):w.heap.size≤gb101));have n3_:=aM ((by rw [hg];exact (Qj (by repeat (first|(with_reducible first|exact HB.out|apply Qc|apply Qa|apply Qb)|exact HB.out))):w.heap.size≤gb101));clear HB;have HB:=n0_;have BK101:=n1_;have GW101:=n2_;have GE101:=n3_;clear n0_ n1_ n2_ n3_;clear hb hbox hg)|((with_reducible refine Qo (f:=200) rfl ?_);refine goesL_ (some 11) rfl rfl Try.func200 (by kernel_rfl) rfl #[.slice A0 l0.length c0,.slice A1 l1.length c1] rfl (by (try simp only [aD,aE,aF]);first|done|rfl|(simp only [aG,aH];rfl)) ?_;(with_reducible refine (spec_l4Counts.calls k _ _ l0 _ _ l1 false _ ?side1 ?side2 ?side3 ?side4 A3.out).mono ?_);(case side1=>repeat (first|exact (Kd.C_below HR0.out HB.out)|(with_reducible refine Kd.Qr ?_ _)|(with_reducible refine Kd.Qs ?_ _)|(with_reducible refine Kd.C_drew ?_)));(case side2=>exact HC0.out);(case side3=>repeat (first|exact (Kd.C_below HR1.out HB.out)|(with_reducible refine Kd.Qr ?_ _)|(with_reducible refine Kd.Qs ?_ _)|(with_reducible refine Kd.C_drew ?_)));(case side4=>exact HC1.out);rintro e w' ⟨rfl,⟨nd,rfl⟩⟩;refine ⟨_,rfl,?_⟩;(try (rw [drewN_self w18];generalize hq_:World.drewN w18 _=w18;have n0_:Aside0 (w18.heap[gb101]? = some (.cells #[.int .i64 0,.int .i64 0] 61 (0,0))):=⟨by rw [←hq_];exact (by (with_reducible repeat (first|apply Qe|apply Qg|apply Qd));exact BK101.out)⟩;have n1_:Aside0 (Below w.heap.size w w18):=⟨by rw [←hq_];exact (by repeat (first|(with_reducible first|exact HB.out|apply Qc|apply Qa|apply Qb|refine Qf ?_ GE101.out)|exact HB.out))⟩;clear BK101 HB hq_;have BK101:=n0_;have HB:=n1_;clear n0_ n1_));have hcz19_0:w18.cell? ⟨gb101,0,none⟩=some (.int .i64 0):=(Qk BK101.out 0).trans rfl;have hcz19_1:w18.cell? ⟨gb101,1,none⟩=some (.int .i64 0):=(Qk BK101.out 1).trans rfl;have hfz19_0:=Qh BK101.out 0;have hfz19_1:=Qh BK101.out 1))
   refine bodyPost_ret (results_ct rfl _ _ gb101 61 #[.int .i64 0,.int .i64 0] (0,0) _ rfl (by (with_reducible repeat (first|apply Qe|apply Qg|apply Qd));refine Qv (cs:=#[.int .i64 0,.int .i64 0]) ?_ 1 _ rfl;(with_reducible repeat (first|apply Qe|apply Qg|apply Qd));refine Qv (cs:=#[.int .i64 0,.int .i64 0]) ?_ 0 _ rfl;(with_reducible repeat (first|apply Qe|apply Qg|apply Qd));exact BK101.out) Try.underlying61 rfl (by kernel_rfl)) rfl ?_;exact ⟨by first|rfl|(simp [errW_none,errW_some] <;> rfl)|(simp [*,errW_none,errW_some] <;> rfl),by repeat (first|(with_reducible first|exact HB.out|apply Qc|apply Qa|apply Qb|refine Qf ?_ GE101.out)|exact HB.out)⟩
end Go.Proofs.Ythonbjmjhegpdaa.Print
