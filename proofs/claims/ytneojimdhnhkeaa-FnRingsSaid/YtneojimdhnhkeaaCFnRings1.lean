/- Nothing is needed just where all is as wanted, there as much as back, and by a third as much at least, for drawn spots: no condition but the statement's own. -/
import Derived.Test.YtneojimdhnhkeaaCFnRings0
set_option linter.unusedVariables false
set_option linter.unusedSimpArgs false
namespace Go.Proofs.Ytneojimdhnhkeaa.Print
open Go.RowKit Go.Proofs.YtneojimdhnhkeaaW.PrintWords Go.Proofs.YtneojimdhnhkeaaW.PrintLast Go.Proofs.YtneojimdhnhkeaaW.PrintMore
attribute [local go_sem] max2_int min2_int max_two min_two max_three min_three max_four min_four

mutual
def impl_RingsOf.l0:Nat→List Int→List Int→Int→Int→List Bool→List Int→Int→Int→Option (Int×Int×Bool)
  |0,_,_,_,_,_,_,_,_=>none
  |k+1,x0,x1,x7,x8,x9,x22,x23,x24=>if x24<x23 then (if 0≤x24 then (if x24<(x22.length:Int) then (if (rd x22 x24)=0 then (impl_RingsOf.l0 k x0 x1 x7 x8 x9 x22 x23 (wrap64 (x24+1))) else (if x24<(x1.length:Int) then (if (rd x22 x24)=(rd x1 x24) then (impl_RingsOf.l0 k x0 x1 x7 x8 x9 x22 x23 (wrap64 (x24+1))) else (impl_RingsOf.l0 k x0 x1 (wrap64 (x7+1)) x8 x9 x22 x23 (wrap64 (x24+1)))) else (none))) else (none)) else (none)) else (impl_RingsOf.l1 k x0 x1 x7 x8 x9 (x0.length:Int) 0)
def impl_RingsOf.l1:Nat→List Int→List Int→Int→Int→List Bool→Int→Int→Option (Int×Int×Bool)
  |0,_,_,_,_,_,_,_=>none
  |k+1,x0,x1,x7,x8,x9,x43,x44=>if x44<x43 then (impl_RingsOf.l2 k x0 x1 x7 x8 x9 x44 x44 0 x43 x44) else (some (x7,x8,true))
def impl_RingsOf.l2:Nat→List Int→List Int→Int→Int→List Bool→Int→Int→Int→Int→Int→Option (Int×Int×Bool)
  |0,_,_,_,_,_,_,_,_,_,_=>none
  |k+1,x0,x1,x7,x8,x9,x12,x13,x14,x43,x44=>if 0≤x13 then (if x13<(x0.length:Int) then (if (rd x0 x13)=0 then (if x14 > 0 then (if x13=x12 then (impl_RingsOf.l1 k x0 x1 x7 (wrap64 (x8+1)) x9 x43 (wrap64 (x44+1))) else (impl_RingsOf.l1 k x0 x1 x7 x8 x9 x43 (wrap64 (x44+1)))) else (impl_RingsOf.l1 k x0 x1 x7 x8 x9 x43 (wrap64 (x44+1)))) else (if x13<(x1.length:Int) then (if (rd x0 x13)=(rd x1 x13) then (if x14 > 0 then (if x13=x12 then (impl_RingsOf.l1 k x0 x1 x7 (wrap64 (x8+1)) x9 x43 (wrap64 (x44+1))) else (impl_RingsOf.l1 k x0 x1 x7 x8 x9 x43 (wrap64 (x44+1)))) else (impl_RingsOf.l1 k x0 x1 x7 x8 x9 x43 (wrap64 (x44+1)))) else (if x13<(x9.length:Int) then (if rdOf false x9 x13=true then (if x14 > 0 then (if x13=x12 then (impl_RingsOf.l1 k x0 x1 x7 (wrap64 (x8+1)) x9 x43 (wrap64 (x44+1))) else (impl_RingsOf.l1 k x0 x1 x7 x8 x9 x43 (wrap64 (x44+1)))) else (impl_RingsOf.l1 k x0 x1 x7 x8 x9 x43 (wrap64 (x44+1)))) else ((slices_Index_int_int.f k x1 (rd x0 x13)).bind fun t113=>(impl_RingsOf.l2 k x0 x1 x7 x8 (x9.set (x13:Int).toNat true) x12 t113 (wrap64 (x14+1)) x43 x44))) else (none))) else (none))) else (none)) else (none)
end
def impl_RingsOf.f (k:Nat) (l0:List Int) (l1:List Int):Option (Int×Int×Bool):=(impl_areAlike.f k l0 l1).bind fun t101=>(if t101=true then (if 0≤(l0.length:Int) then (if ((l0.length:Int):Int).toNat≤281474976710656 then (impl_RingsOf.l0 k l0 l1 0 0 (List.replicate ((l0.length:Int):Int).toNat false) l0 (l0.length:Int) 0) else (none)) else (none)) else (some (0,0,false)))
def impl_RingsOf.T14:Bool×List (List Nat×List Nat):=(true,[([],[]),([],[]),([0,1],[0,1]),([2],[2]),([3],[3]),([4],[4]),([5],[5]),([5],[5]),([6,7,5],[5,6,7]),([8,5],[5,8]),([5],[5]),([5],[5]),([10,11,5],[5,10,11]),([12,5],[5,12]),([9,13,5],[5,9,13]),([5,14],[5,14]),([15,5],[15]),([16],[16]),([16],[16]),([17,18,16],[16,17,18]),([19,16],[16,19]),([20,16],[16,20]),([16,21],[16,21])])
def impl_RingsOf.B14:List Nat:=[0,0,3,7,15,31,63,63,255,511,63,63,3135,7231,16383,32767,65535,131071,131071,524287,1048575,2097151,4194303]
theorem impl_RingsOf.tab14:rtab .any (opsOf Try.f51 14)=impl_RingsOf.T14:=by kernel_rfl
theorem impl_RingsOf.bits14:waitsOk impl_RingsOf.T14.2 impl_RingsOf.B14=true:=by kernel_rfl
set_option maxHeartbeats 8000000 in
set_option maxRecDepth 100000 in
theorem impl_RingsOf.calls (k:Nat) (A0:Option Addr) (c0:Nat) (l0:List Int) (A1:Option Addr) (c1:Nat) (l1:List Int) (r1:Int) (r2:Int) (r3:Bool) (w:World) (hr0:Kd.C (Kd.int .i64) w A0 l0.length l0) (hc0:l0.length≤c0) (hr1:Kd.C (Kd.int .i64) w A1 l1.length l1) (hc1:l1.length≤c1) (h:impl_RingsOf.f k l0 l1=some (r1,r2,r3)) :
    Calls Try.prog 51 #[.slice A0 l0.length c0,.slice A1 l1.length c1] w fun e w'=>e= .returned (.tuple #[.int .i64 r1,.int .i64 r2,.bool r3])∧Below w.heap.size w w':=by
  have HR0:=aM hr0;have HC0:=aM hc0;clear hr0 hc0;have HR1:=aM hr1;have HC1:=aM hc1;clear hr1 hc1;have HB:=aM (Below.refl w.heap.size w);have H:((impl_areAlike.f k l0 l1).bind fun t101=>(if t101=true then (if 0≤(l0.length:Int) then (if ((l0.length:Int):Int).toNat≤281474976710656 then (impl_RingsOf.l0 k l0 l1 0 0 (List.replicate ((l0.length:Int):Int).toNat false) l0 (l0.length:Int) 0) else (none)) else (none)) else (some (0,0,false))))=some (r1,r2,r3):=h;clear h;replace H:=Option.bind_eq_some_iff.mp H;obtain ⟨t101,A30,H⟩:=H;replace H:(if t101=true then (if 0≤(l0.length:Int) then (if ((l0.length:Int):Int).toNat≤281474976710656 then (impl_RingsOf.l0 k l0 l1 0 0 (List.replicate ((l0.length:Int):Int).toNat false) l0 (l0.length:Int) 0) else (none)) else (none)) else (some (0,0,false)))=some (r1,r2,r3):=H;have A3:=aM A30;clear A30;by_cases c4:t101=true
  ·subst c4;have H1:(if 0≤(l0.length:Int) then (if ((l0.length:Int):Int).toNat≤281474976710656 then (impl_RingsOf.l0 k l0 l1 0 0 (List.replicate ((l0.length:Int):Int).toNat false) l0 (l0.length:Int) 0) else (none)) else (none))=some (r1,r2,r3):=by rw [if_pos rfl] at H;exact H
   clear H;have H:=H1;clear H1;by_cases c5:0≤(l0.length:Int)
   ·rw [if_pos c5] at H;have c5b0:=eq_true c5;have c5b1:decide (0≤(l0.length:Int))=true:=decide_eq_true c5;clear c5;by_cases c6:((l0.length:Int):Int).toNat≤281474976710656
    ·rw [if_pos c6] at H;have c6b0:=eq_true c6;have c6b1:decide (((l0.length:Int):Int).toNat≤281474976710656)=true:=decide_eq_true c6;clear c6;obtain ⟨y102,hy102⟩:∃ y_:List Bool,y_=(List.replicate ((l0.length:Int):Int).toNat false):=⟨_,rfl⟩;replace H:(impl_RingsOf.l0 k l0 l1 0 0 y102 l0 (l0.length:Int) 0)=some (r1,r2,r3):=by first|(rw [hy102];with_reducible exact H)|(have H2_:=(Option.bind_some _ _).symm.trans H;rw [hy102];with_reducible exact H2_)|(have H2_:=(Option.bind_some _ _).symm.trans H;with_reducible exact H2_)|with_reducible exact H|(rw [hy102];exact H)|exact H
     have Ny102:=aM hy102;clear hy102;have H':=aM H;clear H;go_enter Try.func51,Try.ntmps51
     try go_wp2_with (first|((with_reducible refine Qh (f:=186) rfl ?_);refine goesL_ (some 17) rfl rfl Try.func186 (by kernel_rfl) rfl #[.slice A0 l0.length c0,.slice A1 l1.length c1] rfl (by (try simp only [aD,aE,aF]);first|done|rfl|(simp only [aG,aH];rfl)) ?_;(with_reducible refine (impl_areAlike.calls k _ _ l0 _ _ l1 true _ ?side1 ?side2 ?side3 ?side4 A3.out).mono ?_);(case side1=>repeat (first|exact HR0.out|(with_reducible refine Kd.C_alloc ?_ _)|(with_reducible refine Kd.C_drewN ?_ _)|(with_reducible refine Kd.C_drew ?_)));(case side2=>exact HC0.out);(case side3=>repeat (first|exact HR1.out|(with_reducible refine Kd.C_alloc ?_ _)|(with_reducible refine Kd.C_drewN ?_ _)|(with_reducible refine Kd.C_drew ?_)));(case side4=>exact HC1.out);rintro e w7 ⟨rfl,hb⟩;refine ⟨_,rfl,?_⟩;have n0_:=aM (below_step (by repeat (first|(with_reducible first|exact HB.out|apply Qc|apply Qa|apply Qb)|exact HB.out)) hb);clear HB;have HB:=n0_;clear n0_;(try clear hb);(try clear hb2);(try clear hk);(try clear hi)))
     have n0_:=aM (Qb HB.out);clear HB;have HB:=n0_;clear n0_;refine start_ (n:=6) (S:=fun w'=>True) (ds:=[]) #[false,false,false,false,false,false] (by kernel_rfl) rfl rfl trivial (fun hHeld=>?_)
     generalize w7.drew=w8 at HB hHeld ⊢
     refine pure_ (i:=0) (N:=some 19) (v:=?_) (a':=?_) #[true,false,false,false,false,false] rfl rfl (by kernel_rfl) (fun _ _ _ h=>h) (Or.inl ⟨by rfl,?_⟩) ?_ ?_
     rotate_left
     ·intro w'
      go_simp
      with_reducible rfl
     rotate_left
     ·simp only [Act.put,aA,aB,aC,i64_w,i32_w]
      rfl
     refine pure_ (i:=1) (N:=some 20) (v:=?_) (a':=?_) #[true,true,false,false,false,false] rfl rfl (by kernel_rfl) (fun _ _ _ h=>h) (Or.inl ⟨by rfl,?_⟩) ?_ ?_
     rotate_left
     ·intro w'
      go_simp
      with_reducible rfl
     rotate_left
     ·simp only [Act.put,aA,aB,aC,i64_w,i32_w]
      rfl
     refine pure_ (i:=3) (N:=some 7) (v:=?_) (a':=?_) #[true,true,false,true,false,false] rfl rfl (by kernel_rfl) (fun _ _ _ h=>h) (Or.inl ⟨by rfl,?_⟩) ?_ ?_
     rotate_left
     ·intro w'
      go_simp
      with_reducible rfl
     rotate_left
     ·simp only [Act.put,aA,aB,aC,i64_w,i32_w]
      rfl
     refine pure_ (i:=4) (N:=some 8) (v:=?_) (a':=?_) #[true,true,false,true,true,false] rfl rfl (by kernel_rfl) (fun _ _ _ h=>h) (Or.inl ⟨by rfl,?_⟩) ?_ ?_
     rotate_left
     ·intro w'
      go_simp
      with_reducible rfl
     rotate_left
     ·simp only [Act.put,aA,aB,aC,i64_w,i32_w]
      rfl
     refine one_ (i:=2) (N:=some 21) #[true,true,true,true,true,false] rfl rfl (by kernel_rfl) (by decide) (fun K hK=>?_);refine Kd.R_make_step Kd.bool _ 4 (by rfl) (N:=21) rfl 99 _ _ rfl (l0.length:Int) rfl rfl Try.underlying99 (.bool false) 1 info4 rfl (by decide) (by omega) false (ok:=fun _=>True) (okp:=fun _=>True) rfl (fun _ hk=>hk) trivial (of_decide_eq_true (by first|(with_reducible assumption)|assumption)) (Nat.le_trans (Nat.mul_le_mul_right _ (of_decide_eq_true (by first|(with_reducible assumption)|assumption):(l0.length:Int).toNat≤281474976710656)) (by omega)) (Below.refl _ _) (Nat.le_refl _) ?_;intro v103 w9 ho10 hb hg_ hnew_;clear hg_ hnew_
     (first|rw [←Ny102.out] at ho10|(simp only [Int.reduceToNat] at ho10;rw [←Ny102.out] at ho10))
     have n0_:=aM (Kd.R_lower ho10 (below_size (by repeat (first|(with_reducible first|exact HB.out|apply Qc|apply Qa|apply Qb)|exact HB.out))));have n1_:=aM (below_step (by repeat (first|(with_reducible first|exact HB.out|apply Qc|apply Qa|apply Qb)|exact HB.out)) hb);clear HB;have HO104:=n0_;have HB:=n1_;clear n0_ n1_;clear hb ho10;refine hK.out _ _ trivial (fun hHeld=>?_);clear hK K;refine norm_ (a':=?_) ?_ ?_
     rotate_left
     ·show Act.put _ (some 21) _=_
      simp only [Act.put,aA,aB,aC,i64_w,i32_w]
      rfl
     refine pure_ (i:=5) (N:=some 9) (v:=?_) (a':=?_) #[true,true,true,true,true,true] rfl rfl (by kernel_rfl) (fun _ _ _ h=>h) (Or.inl ⟨by rfl,?_⟩) ?_ ?_
     rotate_left
     ·intro w'
      go_simp
      with_reducible rfl
     rotate_left
     ·simp only [Act.put,aA,aB,aC,i64_w,i32_w]
      rfl
     refine done_ (by kernel_rfl) ?_
     try go_wp2
     go_loopg [7,24] k (fun kq v7 v24 w'=>∃ (x7_1:Int) (x24_1:Int),v7= .int .i64 x7_1∧v24= .int .i64 x24_1∧Aside0 (impl_RingsOf.l0 kq l0 l1 x7_1 0 y102 l0 (l0.length:Int) x24_1=some (r1,r2,r3))∧Aside0 (kq≤k)∧Aside0 (Kd.R Kd.bool 4 w' w.heap.size (fun _=>True) v103 y102)∧Aside0 (Below w.heap.size w w'))
     case atStart=>exact ⟨(0),(0),(by first|rfl|(simp;done)|(simp [*];done)),(by first|rfl|(simp;done)|(simp [*];done)),H',⟨Nat.le_refl _⟩,⟨by (with_reducible repeat (first|apply Kd.Qe|apply Kd.Qd|apply Kd.R_drew));exact HO104.out⟩,⟨by repeat (first|(with_reducible first|exact HB.out|apply Qc|apply Qa|apply Qb)|exact HB.out)⟩⟩
     case round=>
      clear H';(try clear c1);(try clear p2);(try clear c4);(try clear c5);(try clear c5b0);(try clear c5b1);(try clear c6);(try clear c6b0);(try clear c6b1);obtain ⟨x7_1,x24_1,rfl,rfl,HA,HK1,HO_9,HB⟩:=hrel
      cases gk with
      |zero=>exact absurd HA.out (by simp [impl_RingsOf.l0])
      |succ k1=>
       have H:=HA.out;clear HA;simp only [impl_RingsOf.l0] at H;by_cases c11:x24_1<(l0.length:Int)
       ·rw [if_pos c11] at H;have c11b0:decide (x24_1<(l0.length:Int))=true:=decide_eq_true c11;clear c11;by_cases c12:0≤x24_1
        ·rw [if_pos c12] at H;have c12b0:decide (0≤x24_1)=true:=decide_eq_true c12;clear c12;by_cases c13:x24_1<(l0.length:Int)
         ·rw [if_pos c13] at H;have c13b0:decide (x24_1<(l0.length:Int))=true:=decide_eq_true c13;clear c13;by_cases c14:(rd l0 x24_1)=0
          ·rw [if_pos c14] at H;have c14b0:((rd l0 x24_1) == 0)=true:=beq_iff_eq.mpr c14;have c14b1:((rd l0 x24_1) != 0)=false:=bne_eq_false_iff_eq.mpr c14;clear c14;have H':=aM H;clear H;have p105:0≤(x24_1:Int):=of_decide_eq_true (by first|(with_reducible assumption)|assumption);have q105:x24_1<(l0.length:Int):=of_decide_eq_true (by first|(with_reducible assumption)|assumption);obtain ⟨ad105,e105,hx105_0⟩:=Kd.at_int HR0.out x24_1 p105 q105
           cases e105
           replace hx105_0:=(HB.out.cell (aI w _ hx105_0)).trans hx105_0;replace p105:=eq_true p105;replace q105:=eq_true q105;go_wp2;go_roundg k1
           case measure=>have:=HK1.out;omega
           case rel=>exact ⟨(x7_1),(wrap64 (x24_1+1)),(by first|rfl|(simp;done)|(simp [*];done)),(by first|rfl|(simp;done)|(simp [*];done)),H',⟨by have:=HK1.out;omega⟩,⟨by (with_reducible repeat (first|apply Kd.Qe|apply Kd.Qd|apply Kd.R_drew));exact HO_9.out⟩,⟨by repeat (first|(with_reducible first|exact HB.out|apply Qc|apply Qa|apply Qb)|exact HB.out)⟩⟩
          ·rw [if_neg c14] at H;have c14b0:((rd l0 x24_1) == 0)=false:=beq_eq_false_iff_ne.mpr c14;have c14b1:((rd l0 x24_1) != 0)=true:=bne_iff_ne.mpr c14;by_cases c15:x24_1<(l1.length:Int)
           ·rw [if_pos c15] at H;have c15b0:decide (x24_1<(l1.length:Int))=true:=decide_eq_true c15;clear c15;by_cases c16:(rd l0 x24_1)=(rd l1 x24_1)
            ·rw [if_pos c16] at H;have c16b0:((rd l0 x24_1) == (rd l1 x24_1))=true:=beq_iff_eq.mpr c16;have c16b1:((rd l0 x24_1) != (rd l1 x24_1))=false:=bne_eq_false_iff_eq.mpr c16;clear c16;have H':=aM H;clear H;have p105:0≤(x24_1:Int):=of_decide_eq_true (by first|(with_reducible assumption)|assumption);have q105:x24_1<(l0.length:Int):=of_decide_eq_true (by first|(with_reducible assumption)|assumption);obtain ⟨ad105,e105,hx105_0⟩:=Kd.at_int HR0.out x24_1 p105 q105
             cases e105
             replace hx105_0:=(HB.out.cell (aI w _ hx105_0)).trans hx105_0;replace p105:=eq_true p105;replace q105:=eq_true q105;have p106:0≤(x24_1:Int):=of_decide_eq_true (by first|(with_reducible assumption)|assumption);have q106:x24_1<(l1.length:Int):=of_decide_eq_true (by first|(with_reducible assumption)|assumption);obtain ⟨ad106,e106,hx106_0⟩:=Kd.at_int HR1.out x24_1 p106 q106
             cases e106
             replace hx106_0:=(HB.out.cell (aI w _ hx106_0)).trans hx106_0;replace p106:=eq_true p106;replace q106:=eq_true q106;go_wp2;go_roundg k1
             case measure=>have:=HK1.out;omega
             case rel=>exact ⟨(x7_1),(wrap64 (x24_1+1)),(by first|rfl|(simp;done)|(simp [*];done)),(by first|rfl|(simp;done)|(simp [*];done)),H',⟨by have:=HK1.out;omega⟩,⟨by (with_reducible repeat (first|apply Kd.Qe|apply Kd.Qd|apply Kd.R_drew));exact HO_9.out⟩,⟨by repeat (first|(with_reducible first|exact HB.out|apply Qc|apply Qa|apply Qb)|exact HB.out)⟩⟩
            ·rw [if_neg c16] at H;have c16b0:((rd l0 x24_1) == (rd l1 x24_1))=false:=beq_eq_false_iff_ne.mpr c16;have c16b1:((rd l0 x24_1) != (rd l1 x24_1))=true:=bne_iff_ne.mpr c16;have H':=aM H;clear H;have p105:0≤(x24_1:Int):=of_decide_eq_true (by first|(with_reducible assumption)|assumption);have q105:x24_1<(l0.length:Int):=of_decide_eq_true (by first|(with_reducible assumption)|assumption);obtain ⟨ad105,e105,hx105_0⟩:=Kd.at_int HR0.out x24_1 p105 q105
             cases e105
             replace hx105_0:=(HB.out.cell (aI w _ hx105_0)).trans hx105_0;replace p105:=eq_true p105;replace q105:=eq_true q105;have p106:0≤(x24_1:Int):=of_decide_eq_true (by first|(with_reducible assumption)|assumption);have q106:x24_1<(l1.length:Int):=of_decide_eq_true (by first|(with_reducible assumption)|assumption);obtain ⟨ad106,e106,hx106_0⟩:=Kd.at_int HR1.out x24_1 p106 q106
             cases e106
             replace hx106_0:=(HB.out.cell (aI w _ hx106_0)).trans hx106_0;replace p106:=eq_true p106;replace q106:=eq_true q106;go_wp2;go_roundg k1
             case measure=>have:=HK1.out;omega
             case rel=>exact ⟨(wrap64 (x7_1+1)),(wrap64 (x24_1+1)),(by first|rfl|(simp;done)|(simp [*];done)),(by first|rfl|(simp;done)|(simp [*];done)),H',⟨by have:=HK1.out;omega⟩,⟨by (with_reducible repeat (first|apply Kd.Qe|apply Kd.Qd|apply Kd.R_drew));exact HO_9.out⟩,⟨by repeat (first|(with_reducible first|exact HB.out|apply Qc|apply Qa|apply Qb)|exact HB.out)⟩⟩
           ·rw [if_neg c15] at H;exact absurd H (by simp)
         ·rw [if_neg c13] at H;exact absurd H (by simp)
        ·rw [if_neg c12] at H;exact absurd H (by simp)
       ·rw [if_neg c11] at H;have c11b0:decide (x24_1<(l0.length:Int))=false:=decide_eq_false c11;clear c11;have H':=aM H;clear H;go_wp2;go_loopg [8,44] k1 (fun kq v8 v44 w'=>∃ (x8_2:Int) (x9_2:List Bool) (x44_2:Int),v8= .int .i64 x8_2∧v44= .int .i64 x44_2∧Aside0 (impl_RingsOf.l1 kq l0 l1 x7_1 x8_2 x9_2 (l0.length:Int) x44_2=some (r1,r2,r3))∧Aside0 (kq≤k1)∧Aside0 (Kd.R Kd.bool 4 w' w.heap.size (fun _=>True) v103 x9_2)∧Aside0 (Below w.heap.size w w'))
        case atStart=>exact ⟨(0),(y102),(0),(by first|rfl|(simp;done)|(simp [*];done)),(by first|rfl|(simp;done)|(simp [*];done)),H',⟨Nat.le_refl _⟩,⟨by (with_reducible repeat (first|apply Kd.Qe|apply Kd.Qd|apply Kd.R_drew));exact HO_9.out⟩,⟨by repeat (first|(with_reducible first|exact HB.out|apply Qc|apply Qa|apply Qb)|exact HB.out)⟩⟩
        case round=>
         clear H';(try clear c1);(try clear p1);(try clear q1);(try clear hx1);(try clear p2);(try clear c4);(try clear c5);(try clear c5b0);(try clear c5b1);(try clear c6);(try clear c6b0);(try clear c6b1);(try clear p6);(try clear p10);(try clear q10);(try clear hx10);(try clear c11);(try clear c11b0);(try clear c12);(try clear c12b0);(try clear c13);(try clear c13b0);(try clear c14);(try clear c14b0);(try clear c14b1);(try clear c15);(try clear c15b0);(try clear c16);(try clear c16b0);(try clear c16b1);(try clear hx105_0);(try clear hx106_0);(try clear p105);(try clear p106);(try clear p2);(try clear q105);(try clear q106);obtain ⟨x8_2,x9_2,x44_2,rfl,rfl,HA,HK2,HO_9,HB⟩:=hrel
         cases gk with
         |zero=>exact absurd HA.out (by simp [impl_RingsOf.l1])
         |succ k2=>
          have H:=HA.out;clear HA;simp only [impl_RingsOf.l1] at H;by_cases c17:x44_2<(l0.length:Int)
          ·rw [if_pos c17] at H;have c17b0:decide (x44_2<(l0.length:Int))=true:=decide_eq_true c17;clear c17;have H':=aM H;clear H;go_wp2;go_loopg [13,14] k2 (fun kq v13 v14 w'=>∃ (x9_3:List Bool) (x13_3:Int) (x14_3:Int),v13= .int .i64 x13_3∧v14= .int .i64 x14_3∧Aside0 (impl_RingsOf.l2 kq l0 l1 x7_1 x8_2 x9_3 x44_2 x13_3 x14_3 (l0.length:Int) x44_2=some (r1,r2,r3))∧Aside0 (kq≤k2)∧Aside0 (Kd.R Kd.bool 4 w' w.heap.size (fun _=>True) v103 x9_3)∧Aside0 (Below w.heap.size w w'))
           case atStart=>exact ⟨(x9_2),(x44_2),(0),(by first|rfl|(simp;done)|(simp [*];done)),(by first|rfl|(simp;done)|(simp [*];done)),H',⟨Nat.le_refl _⟩,⟨by (with_reducible repeat (first|apply Kd.Qe|apply Kd.Qd|apply Kd.R_drew));exact HO_9.out⟩,⟨by repeat (first|(with_reducible first|exact HB.out|apply Qc|apply Qa|apply Qb)|exact HB.out)⟩⟩
           case round=>
            clear H';(try clear c1);(try clear p1);(try clear q1);(try clear hx1);(try clear p2);(try clear c4);(try clear c5);(try clear c5b0);(try clear c5b1);(try clear c6);(try clear c6b0);(try clear c6b1);(try clear p6);(try clear p10);(try clear q10);(try clear hx10);(try clear c11);(try clear c11b0);(try clear c12);(try clear c12b0);(try clear c13);(try clear c13b0);(try clear c14);(try clear c14b0);(try clear c14b1);(try clear c15);(try clear c15b0);(try clear c16);(try clear c16b0);(try clear c16b1);(try clear c17);(try clear c17b0);(try clear hx105_0);(try clear hx106_0);(try clear p1);(try clear p10);(try clear p105);(try clear p106);(try clear p2);(try clear p6);(try clear q1);(try clear q10);(try clear q105);(try clear q106);obtain ⟨x9_3,x13_3,x14_3,rfl,rfl,HA,HK3,HO_9,HB⟩:=hrel
            cases gk with
            |zero=>exact absurd HA.out (by simp [impl_RingsOf.l2])
            |succ k3=>
             have H:=HA.out;clear HA;simp only [impl_RingsOf.l2] at H;by_cases c18:0≤x13_3
             ·rw [if_pos c18] at H;have c18b0:decide (0≤x13_3)=true:=decide_eq_true c18;clear c18;by_cases c19:x13_3<(l0.length:Int)
              ·rw [if_pos c19] at H;have c19b0:decide (x13_3<(l0.length:Int))=true:=decide_eq_true c19;clear c19;by_cases c20:(rd l0 x13_3)=0
               ·rw [if_pos c20] at H;have c20b0:((rd l0 x13_3) == 0)=true:=beq_iff_eq.mpr c20;have c20b1:((rd l0 x13_3) != 0)=false:=bne_eq_false_iff_eq.mpr c20;clear c20;by_cases c21:x14_3 > 0
                ·rw [if_pos c21] at H;have c21b0:decide (0<x14_3)=true:=decide_eq_true c21;clear c21;by_cases c22:x13_3=x44_2
                 ·rw [if_pos c22] at H;have c22b0:(x13_3 == x44_2)=true:=beq_iff_eq.mpr c22;have c22b1:(x13_3 != x44_2)=false:=bne_eq_false_iff_eq.mpr c22;clear c22;have H':=aM H;clear H
                  try go_wp2
                  have n0_:=aM (Kd.R_drew HO_9.out);have n1_:=aM (Qb HB.out);clear HO_9;clear HB;have HO_9:=n0_;have HB:=n1_;clear n0_ n1_;have p107:0≤(x13_3:Int):=of_decide_eq_true (by first|(with_reducible assumption)|assumption);have q107:x13_3<(l0.length:Int):=of_decide_eq_true (by first|(with_reducible assumption)|assumption);obtain ⟨ad107,e107,hx107_0⟩:=Kd.at_int HR0.out x13_3 p107 q107;have hw107_0:=hx107_0
                  cases e107
                  replace hx107_0:=(HB.out.cell (aI w _ hx107_0)).trans hx107_0;replace p107:=eq_true p107;replace q107:=eq_true q107;refine start_ (n:=23) (S:=fun w'=>w'.cell? (ad107.add (x13_3).toNat)=some (.int .i64 (rd l0 x13_3))) (ds:=[]) #[false,false,false,false,false,false,false,false,false,false,false,false,false,false,false,false,false,false,false,false,false,false,false] (by kernel_rfl) rfl rfl (((HB.out.cell (aI w _ hw107_0)).trans hw107_0)) (fun hHeld=>?_);refine with_tabW impl_RingsOf.tab14 impl_RingsOf.bits14 (fun HT_ HW_=>?_)
                  generalize wr.drew=w23 at HO_9 HB hx107_0 hHeld ⊢
                  refine pure_ (i:=0) (N:=some 48) (v:=?_) (a':=?_) #[true,false,false,false,false,false,false,false,false,false,false,false,false,false,false,false,false,false,false,false,false,false,false] rfl rfl (any_of HT_.out (by kernel_rfl)) (fun _ _ _ h=>h) (Or.inl ⟨by rfl,?_⟩) ?_ ?_
                  rotate_left
                  ·intro w'
                   go_simp
                   with_reducible rfl
                  rotate_left
                  ·simp only [Act.put,aA,aB,aC,i64_w,i32_w]
                   rfl
                  refine pure_ (i:=1) (N:=some 49) (v:=?_) (a':=?_) #[true,true,false,false,false,false,false,false,false,false,false,false,false,false,false,false,false,false,false,false,false,false,false] rfl rfl (any_of HT_.out (by kernel_rfl)) (fun _ _ _ h=>h) (Or.inl ⟨by rfl,?_⟩) ?_ ?_
                  rotate_left
                  ·intro w'
                   go_simp
                   with_reducible rfl
                  rotate_left
                  ·simp only [Act.put,aA,aB,aC,i64_w,i32_w]
                   rfl
                  refine pure_ (i:=2) (N:=some 50) (v:=?_) (a':=?_) #[true,true,true,false,false,false,false,false,false,false,false,false,false,false,false,false,false,false,false,false,false,false,false] rfl rfl (any_of HT_.out (by kernel_rfl)) (fun _ _ _ h=>h) (Or.inl ⟨by rfl,?_⟩) ?_ ?_
                  rotate_left
                  ·intro w'
                   go_simp
                   with_reducible rfl
                  rotate_left
                  ·simp only [Act.put,aA,aB,aC,i64_w,i32_w]
                   rfl
                  refine take_ (i:=3) (N:=some 51) (v:=?_) (a':=?_) #[true,true,true,true,false,false,false,false,false,false,false,false,false,false,false,false,false,false,false,false,false,false,false] rfl rfl (take_ofW HT_.out HW_.out (by kernel_rfl)) (fun _ _ _ h=>h) (Or.inl ⟨by rfl,?_⟩) hHeld ?_ ?_
                  rotate_left
                  ·intro w' s0
                   go_simp
                   with_reducible rfl
                  rotate_left
                  ·simp only [Act.put,aA,aB,aC,i64_w,i32_w]
                   rfl
                  refine pure_ (i:=4) (N:=some 52) (v:=?_) (a':=?_) #[true,true,true,true,true,false,false,false,false,false,false,false,false,false,false,false,false,false,false,false,false,false,false] rfl rfl (any_of HT_.out (by kernel_rfl)) (fun _ _ _ h=>h) (Or.inl ⟨by rfl,?_⟩) ?_ ?_
                  rotate_left
                  ·intro w'
                   go_simp
                   with_reducible rfl
                  rotate_left
                  ·simp only [Act.put,aA,aB,aC,i64_w,i32_w]
                   rfl
                  refine pure_ (i:=5) (N:=some 53) (v:=?_) (a':=?_) #[true,true,true,true,true,true,false,false,false,false,false,false,false,false,false,false,false,false,false,false,false,false,false] rfl rfl (any_of HT_.out (by kernel_rfl)) (fun _ _ _ h=>h) (Or.inl ⟨by rfl,?_⟩) ?_ ?_
                  rotate_left
                  ·intro w'
                   go_simp
                   with_reducible rfl
                  rotate_left
                  ·simp only [Act.put,aA,aB,aC,i64_w,i32_w]
                   rfl
                  refine pure_ (i:=6) (N:=some 54) (v:=undef) (a':=?_) #[true,true,true,true,true,true,true,false,false,false,false,false,false,false,false,false,false,false,false,false,false,false,false] rfl rfl (any_of HT_.out (by kernel_rfl)) (fun _ _ _ h=>h) (Or.inr ⟨by rfl,rfl⟩) ?_ ?_
                  rotate_left
                  ·simp only [Act.put,aA,aB,aC,i64_w,i32_w]
                   rfl
                  refine pure_ (i:=7) (N:=some 55) (v:=undef) (a':=?_) #[true,true,true,true,true,true,true,true,false,false,false,false,false,false,false,false,false,false,false,false,false,false,false] rfl rfl (any_of HT_.out (by kernel_rfl)) (fun _ _ _ h=>h) (Or.inr ⟨by rfl,rfl⟩) ?_ ?_
                  rotate_left
                  ·simp only [Act.put,aA,aB,aC,i64_w,i32_w]
                   rfl
                  refine pure_ (i:=8) (N:=some 56) (v:=undef) (a':=?_) #[true,true,true,true,true,true,true,true,true,false,false,false,false,false,false,false,false,false,false,false,false,false,false] rfl rfl (any_of HT_.out (by kernel_rfl)) (fun _ _ _ h=>h) (Or.inr ⟨by rfl,rfl⟩) ?_ ?_
                  rotate_left
                  ·simp only [Act.put,aA,aB,aC,i64_w,i32_w]
                   rfl
                  refine pure_ (i:=9) (N:=some 57) (v:=undef) (a':=?_) #[true,true,true,true,true,true,true,true,true,true,false,false,false,false,false,false,false,false,false,false,false,false,false] rfl rfl (any_of HT_.out (by kernel_rfl)) (fun _ _ _ h=>h) (Or.inr ⟨by rfl,rfl⟩) ?_ ?_
                  rotate_left
                  ·simp only [Act.put,aA,aB,aC,i64_w,i32_w]
                   rfl
                  refine pure_ (i:=10) (N:=some 58) (v:=undef) (a':=?_) #[true,true,true,true,true,true,true,true,true,true,true,false,false,false,false,false,false,false,false,false,false,false,false] rfl rfl (any_of HT_.out (by kernel_rfl)) (fun _ _ _ h=>h) (Or.inr ⟨by rfl,rfl⟩) ?_ ?_
                  rotate_left
                  ·simp only [Act.put,aA,aB,aC,i64_w,i32_w]
                   rfl
                  refine pure_ (i:=11) (N:=some 59) (v:=undef) (a':=?_) #[true,true,true,true,true,true,true,true,true,true,true,true,false,false,false,false,false,false,false,false,false,false,false] rfl rfl (any_of HT_.out (by kernel_rfl)) (fun _ _ _ h=>h) (Or.inr ⟨by rfl,rfl⟩) ?_ ?_
                  rotate_left
                  ·simp only [Act.put,aA,aB,aC,i64_w,i32_w]
                   rfl
                  refine pure_ (i:=12) (N:=some 60) (v:=undef) (a':=?_) #[true,true,true,true,true,true,true,true,true,true,true,true,true,false,false,false,false,false,false,false,false,false,false] rfl rfl (any_of HT_.out (by kernel_rfl)) (fun _ _ _ h=>h) (Or.inr ⟨by rfl,rfl⟩) ?_ ?_
                  rotate_left
                  ·simp only [Act.put,aA,aB,aC,i64_w,i32_w]
                   rfl
                  refine pure_ (i:=13) (N:=some 61) (v:=undef) (a':=?_) #[true,true,true,true,true,true,true,true,true,true,true,true,true,true,false,false,false,false,false,false,false,false,false] rfl rfl (any_of HT_.out (by kernel_rfl)) (fun _ _ _ h=>h) (Or.inr ⟨by rfl,rfl⟩) ?_ ?_
                  rotate_left
                  ·simp only [Act.put,aA,aB,aC,i64_w,i32_w]
                   rfl
                  refine pure_ (i:=14) (N:=some 62) (v:=undef) (a':=?_) #[true,true,true,true,true,true,true,true,true,true,true,true,true,true,true,false,false,false,false,false,false,false,false] rfl rfl (any_of HT_.out (by kernel_rfl)) (fun _ _ _ h=>h) (Or.inr ⟨by rfl,rfl⟩) ?_ ?_
                  rotate_left
                  ·simp only [Act.put,aA,aB,aC,i64_w,i32_w]
                   rfl
                  refine pure_ (i:=15) (N:=some 63) (v:=?_) (a':=?_) #[true,true,true,true,true,true,true,true,true,true,true,true,true,true,true,true,false,false,false,false,false,false,false] rfl rfl (any_of HT_.out (by kernel_rfl)) (fun _ _ _ h=>h) (Or.inl ⟨by rfl,?_⟩) ?_ ?_
                  rotate_left
                  ·intro w'
                   go_simp
                   with_reducible rfl
                  rotate_left
                  ·simp only [Act.put,aA,aB,aC,i64_w,i32_w]
                   rfl
                  refine pure_ (i:=16) (N:=some 64) (v:=?_) (a':=?_) #[true,true,true,true,true,true,true,true,true,true,true,true,true,true,true,true,true,false,false,false,false,false,false] rfl rfl (any_of HT_.out (by kernel_rfl)) (fun _ _ _ h=>h) (Or.inl ⟨by rfl,?_⟩) ?_ ?_
                  rotate_left
                  ·intro w'
                   go_simp
                   with_reducible rfl
                  rotate_left
                  ·simp only [Act.put,aA,aB,aC,i64_w,i32_w]
                   rfl
                  refine pure_ (i:=17) (N:=some 65) (v:=undef) (a':=?_) #[true,true,true,true,true,true,true,true,true,true,true,true,true,true,true,true,true,true,false,false,false,false,false] rfl rfl (any_of HT_.out (by kernel_rfl)) (fun _ _ _ h=>h) (Or.inr ⟨by rfl,rfl⟩) ?_ ?_
                  rotate_left
                  ·simp only [Act.put,aA,aB,aC,i64_w,i32_w]
                   rfl
                  refine pure_ (i:=18) (N:=some 66) (v:=undef) (a':=?_) #[true,true,true,true,true,true,true,true,true,true,true,true,true,true,true,true,true,true,true,false,false,false,false] rfl rfl (any_of HT_.out (by kernel_rfl)) (fun _ _ _ h=>h) (Or.inr ⟨by rfl,rfl⟩) ?_ ?_
                  rotate_left
                  ·simp only [Act.put,aA,aB,aC,i64_w,i32_w]
                   rfl
                  refine pure_ (i:=19) (N:=some 67) (v:=undef) (a':=?_) #[true,true,true,true,true,true,true,true,true,true,true,true,true,true,true,true,true,true,true,true,false,false,false] rfl rfl (any_of HT_.out (by kernel_rfl)) (fun _ _ _ h=>h) (Or.inr ⟨by rfl,rfl⟩) ?_ ?_
                  rotate_left
                  ·simp only [Act.put,aA,aB,aC,i64_w,i32_w]
                   rfl
                  refine pure_ (i:=20) (N:=some 68) (v:=undef) (a':=?_) #[true,true,true,true,true,true,true,true,true,true,true,true,true,true,true,true,true,true,true,true,true,false,false] rfl rfl (any_of HT_.out (by kernel_rfl)) (fun _ _ _ h=>h) (Or.inr ⟨by rfl,rfl⟩) ?_ ?_
                  rotate_left
                  ·simp only [Act.put,aA,aB,aC,i64_w,i32_w]
                   rfl
                  refine pure_ (i:=21) (N:=some 69) (v:=undef) (a':=?_) #[true,true,true,true,true,true,true,true,true,true,true,true,true,true,true,true,true,true,true,true,true,true,false] rfl rfl (any_of HT_.out (by kernel_rfl)) (fun _ _ _ h=>h) (Or.inr ⟨by rfl,rfl⟩) ?_ ?_
                  rotate_left
                  ·simp only [Act.put,aA,aB,aC,i64_w,i32_w]
                   rfl
                  refine pure_ (i:=22) (N:=some 70) (v:=?_) (a':=?_) #[true,true,true,true,true,true,true,true,true,true,true,true,true,true,true,true,true,true,true,true,true,true,true] rfl rfl (any_of HT_.out (by kernel_rfl)) (fun _ _ _ h=>h) (Or.inl ⟨by rfl,?_⟩) ?_ ?_
                  rotate_left
                  ·intro w'
                   go_simp
                   with_reducible rfl
                  rotate_left
                  ·simp only [Act.put,aA,aB,aC,i64_w,i32_w]
                   rfl
                  refine done_ (done_of HT_.out (by kernel_rfl)) ?_
                  try go_wp2
                  go_roundg k3
                  case measure=>have:=HK1.out;have:=HK2.out;have:=HK3.out;omega
                  case rel=>exact ⟨(wrap64 (x8_2+1)),(x9_3),(wrap64 (x44_2+1)),(by first|rfl|(simp;done)|(simp [*];done)),(by first|rfl|(simp;done)|(simp [*];done)),H',⟨by have:=HK1.out;have:=HK2.out;have:=HK3.out;omega⟩,⟨by (with_reducible repeat (first|apply Kd.Qe|apply Kd.Qd|apply Kd.R_drew));exact HO_9.out⟩,⟨by repeat (first|(with_reducible first|exact HB.out|apply Qc|apply Qa|apply Qb)|exact HB.out)⟩⟩
                 ·rw [if_neg c22] at H;have c22b0:(x13_3 == x44_2)=false:=beq_eq_false_iff_ne.mpr c22;have c22b1:(x13_3 != x44_2)=true:=bne_iff_ne.mpr c22;have H':=aM H;clear H
                  try go_wp2
                  have n0_:=aM (Kd.R_drew HO_9.out);have n1_:=aM (Qb HB.out);clear HO_9;clear HB;have HO_9:=n0_;have HB:=n1_;clear n0_ n1_;have p107:0≤(x13_3:Int):=of_decide_eq_true (by first|(with_reducible assumption)|assumption);have q107:x13_3<(l0.length:Int):=of_decide_eq_true (by first|(with_reducible assumption)|assumption);obtain ⟨ad107,e107,hx107_0⟩:=Kd.at_int HR0.out x13_3 p107 q107;have hw107_0:=hx107_0
                  cases e107
                  replace hx107_0:=(HB.out.cell (aI w _ hx107_0)).trans hx107_0;replace p107:=eq_true p107;replace q107:=eq_true q107;refine start_ (n:=23) (S:=fun w'=>w'.cell? (ad107.add (x13_3).toNat)=some (.int .i64 (rd l0 x13_3))) (ds:=[]) #[false,false,false,false,false,false,false,false,false,false,false,false,false,false,false,false,false,false,false,false,false,false,false] (by kernel_rfl) rfl rfl (((HB.out.cell (aI w _ hw107_0)).trans hw107_0)) (fun hHeld=>?_);refine with_tabW impl_RingsOf.tab14 impl_RingsOf.bits14 (fun HT_ HW_=>?_)
                  generalize wr.drew=w24 at HO_9 HB hx107_0 hHeld ⊢
                  refine pure_ (i:=0) (N:=some 48) (v:=?_) (a':=?_) #[true,false,false,false,false,false,false,false,false,false,false,false,false,false,false,false,false,false,false,false,false,false,false] rfl rfl (any_of HT_.out (by kernel_rfl)) (fun _ _ _ h=>h) (Or.inl ⟨by rfl,?_⟩) ?_ ?_
                  rotate_left
                  ·intro w'
                   go_simp
                   with_reducible rfl
                  rotate_left
                  ·simp only [Act.put,aA,aB,aC,i64_w,i32_w]
                   rfl
                  refine pure_ (i:=1) (N:=some 49) (v:=?_) (a':=?_) #[true,true,false,false,false,false,false,false,false,false,false,false,false,false,false,false,false,false,false,false,false,false,false] rfl rfl (any_of HT_.out (by kernel_rfl)) (fun _ _ _ h=>h) (Or.inl ⟨by rfl,?_⟩) ?_ ?_
                  rotate_left
                  ·intro w'
                   go_simp
                   with_reducible rfl
                  rotate_left
                  ·simp only [Act.put,aA,aB,aC,i64_w,i32_w]
                   rfl
                  refine pure_ (i:=2) (N:=some 50) (v:=?_) (a':=?_) #[true,true,true,false,false,false,false,false,false,false,false,false,false,false,false,false,false,false,false,false,false,false,false] rfl rfl (any_of HT_.out (by kernel_rfl)) (fun _ _ _ h=>h) (Or.inl ⟨by rfl,?_⟩) ?_ ?_
                  rotate_left
                  ·intro w'
                   go_simp
                   with_reducible rfl
                  rotate_left
                  ·simp only [Act.put,aA,aB,aC,i64_w,i32_w]
                   rfl
                  refine take_ (i:=3) (N:=some 51) (v:=?_) (a':=?_) #[true,true,true,true,false,false,false,false,false,false,false,false,false,false,false,false,false,false,false,false,false,false,false] rfl rfl (take_ofW HT_.out HW_.out (by kernel_rfl)) (fun _ _ _ h=>h) (Or.inl ⟨by rfl,?_⟩) hHeld ?_ ?_
                  rotate_left
                  ·intro w' s0
                   go_simp
                   with_reducible rfl
                  rotate_left
                  ·simp only [Act.put,aA,aB,aC,i64_w,i32_w]
                   rfl
                  refine pure_ (i:=4) (N:=some 52) (v:=?_) (a':=?_) #[true,true,true,true,true,false,false,false,false,false,false,false,false,false,false,false,false,false,false,false,false,false,false] rfl rfl (any_of HT_.out (by kernel_rfl)) (fun _ _ _ h=>h) (Or.inl ⟨by rfl,?_⟩) ?_ ?_
                  rotate_left
                  ·intro w'
                   go_simp
                   with_reducible rfl
                  rotate_left
                  ·simp only [Act.put,aA,aB,aC,i64_w,i32_w]
                   rfl
                  refine pure_ (i:=5) (N:=some 53) (v:=?_) (a':=?_) #[true,true,true,true,true,true,false,false,false,false,false,false,false,false,false,false,false,false,false,false,false,false,false] rfl rfl (any_of HT_.out (by kernel_rfl)) (fun _ _ _ h=>h) (Or.inl ⟨by rfl,?_⟩) ?_ ?_
                  rotate_left
                  ·intro w'
                   go_simp
                   with_reducible rfl
                  rotate_left
                  ·simp only [Act.put,aA,aB,aC,i64_w,i32_w]
                   rfl
                  refine pure_ (i:=6) (N:=some 54) (v:=undef) (a':=?_) #[true,true,true,true,true,true,true,false,false,false,false,false,false,false,false,false,false,false,false,false,false,false,false] rfl rfl (any_of HT_.out (by kernel_rfl)) (fun _ _ _ h=>h) (Or.inr ⟨by rfl,rfl⟩) ?_ ?_
                  rotate_left
                  ·simp only [Act.put,aA,aB,aC,i64_w,i32_w]
                   rfl
                  refine pure_ (i:=7) (N:=some 55) (v:=undef) (a':=?_) #[true,true,true,true,true,true,true,true,false,false,false,false,false,false,false,false,false,false,false,false,false,false,false] rfl rfl (any_of HT_.out (by kernel_rfl)) (fun _ _ _ h=>h) (Or.inr ⟨by rfl,rfl⟩) ?_ ?_
                  rotate_left
                  ·simp only [Act.put,aA,aB,aC,i64_w,i32_w]
                   rfl
                  refine pure_ (i:=8) (N:=some 56) (v:=undef) (a':=?_) #[true,true,true,true,true,true,true,true,true,false,false,false,false,false,false,false,false,false,false,false,false,false,false] rfl rfl (any_of HT_.out (by kernel_rfl)) (fun _ _ _ h=>h) (Or.inr ⟨by rfl,rfl⟩) ?_ ?_
                  rotate_left
                  ·simp only [Act.put,aA,aB,aC,i64_w,i32_w]
                   rfl
                  refine pure_ (i:=9) (N:=some 57) (v:=undef) (a':=?_) #[true,true,true,true,true,true,true,true,true,true,false,false,false,false,false,false,false,false,false,false,false,false,false] rfl rfl (any_of HT_.out (by kernel_rfl)) (fun _ _ _ h=>h) (Or.inr ⟨by rfl,rfl⟩) ?_ ?_
                  rotate_left
                  ·simp only [Act.put,aA,aB,aC,i64_w,i32_w]
                   rfl
                  refine pure_ (i:=10) (N:=some 58) (v:=undef) (a':=?_) #[true,true,true,true,true,true,true,true,true,true,true,false,false,false,false,false,false,false,false,false,false,false,false] rfl rfl (any_of HT_.out (by kernel_rfl)) (fun _ _ _ h=>h) (Or.inr ⟨by rfl,rfl⟩) ?_ ?_
                  rotate_left
                  ·simp only [Act.put,aA,aB,aC,i64_w,i32_w]
                   rfl
                  refine pure_ (i:=11) (N:=some 59) (v:=undef) (a':=?_) #[true,true,true,true,true,true,true,true,true,true,true,true,false,false,false,false,false,false,false,false,false,false,false] rfl rfl (any_of HT_.out (by kernel_rfl)) (fun _ _ _ h=>h) (Or.inr ⟨by rfl,rfl⟩) ?_ ?_
                  rotate_left
                  ·simp only [Act.put,aA,aB,aC,i64_w,i32_w]
                   rfl
                  refine pure_ (i:=12) (N:=some 60) (v:=undef) (a':=?_) #[true,true,true,true,true,true,true,true,true,true,true,true,true,false,false,false,false,false,false,false,false,false,false] rfl rfl (any_of HT_.out (by kernel_rfl)) (fun _ _ _ h=>h) (Or.inr ⟨by rfl,rfl⟩) ?_ ?_
                  rotate_left
                  ·simp only [Act.put,aA,aB,aC,i64_w,i32_w]
                   rfl
                  refine pure_ (i:=13) (N:=some 61) (v:=undef) (a':=?_) #[true,true,true,true,true,true,true,true,true,true,true,true,true,true,false,false,false,false,false,false,false,false,false] rfl rfl (any_of HT_.out (by kernel_rfl)) (fun _ _ _ h=>h) (Or.inr ⟨by rfl,rfl⟩) ?_ ?_
                  rotate_left
                  ·simp only [Act.put,aA,aB,aC,i64_w,i32_w]
                   rfl
                  refine pure_ (i:=14) (N:=some 62) (v:=undef) (a':=?_) #[true,true,true,true,true,true,true,true,true,true,true,true,true,true,true,false,false,false,false,false,false,false,false] rfl rfl (any_of HT_.out (by kernel_rfl)) (fun _ _ _ h=>h) (Or.inr ⟨by rfl,rfl⟩) ?_ ?_
                  rotate_left
                  ·simp only [Act.put,aA,aB,aC,i64_w,i32_w]
                   rfl
                  refine pure_ (i:=15) (N:=some 63) (v:=?_) (a':=?_) #[true,true,true,true,true,true,true,true,true,true,true,true,true,true,true,true,false,false,false,false,false,false,false] rfl rfl (any_of HT_.out (by kernel_rfl)) (fun _ _ _ h=>h) (Or.inl ⟨by rfl,?_⟩) ?_ ?_
                  rotate_left
                  ·intro w'
                   go_simp
                   with_reducible rfl
                  rotate_left
                  ·simp only [Act.put,aA,aB,aC,i64_w,i32_w]
                   rfl
                  refine pure_ (i:=16) (N:=some 64) (v:=?_) (a':=?_) #[true,true,true,true,true,true,true,true,true,true,true,true,true,true,true,true,true,false,false,false,false,false,false] rfl rfl (any_of HT_.out (by kernel_rfl)) (fun _ _ _ h=>h) (Or.inl ⟨by rfl,?_⟩) ?_ ?_
                  rotate_left
                  ·intro w'
                   go_simp
                   with_reducible rfl
                  rotate_left
                  ·simp only [Act.put,aA,aB,aC,i64_w,i32_w]
                   rfl
                  refine pure_ (i:=17) (N:=some 65) (v:=undef) (a':=?_) #[true,true,true,true,true,true,true,true,true,true,true,true,true,true,true,true,true,true,false,false,false,false,false] rfl rfl (any_of HT_.out (by kernel_rfl)) (fun _ _ _ h=>h) (Or.inr ⟨by rfl,rfl⟩) ?_ ?_
                  rotate_left
                  ·simp only [Act.put,aA,aB,aC,i64_w,i32_w]
                   rfl
                  refine pure_ (i:=18) (N:=some 66) (v:=undef) (a':=?_) #[true,true,true,true,true,true,true,true,true,true,true,true,true,true,true,true,true,true,true,false,false,false,false] rfl rfl (any_of HT_.out (by kernel_rfl)) (fun _ _ _ h=>h) (Or.inr ⟨by rfl,rfl⟩) ?_ ?_
                  rotate_left
                  ·simp only [Act.put,aA,aB,aC,i64_w,i32_w]
                   rfl
                  refine pure_ (i:=19) (N:=some 67) (v:=undef) (a':=?_) #[true,true,true,true,true,true,true,true,true,true,true,true,true,true,true,true,true,true,true,true,false,false,false] rfl rfl (any_of HT_.out (by kernel_rfl)) (fun _ _ _ h=>h) (Or.inr ⟨by rfl,rfl⟩) ?_ ?_
                  rotate_left
                  ·simp only [Act.put,aA,aB,aC,i64_w,i32_w]
                   rfl
                  refine pure_ (i:=20) (N:=some 68) (v:=undef) (a':=?_) #[true,true,true,true,true,true,true,true,true,true,true,true,true,true,true,true,true,true,true,true,true,false,false] rfl rfl (any_of HT_.out (by kernel_rfl)) (fun _ _ _ h=>h) (Or.inr ⟨by rfl,rfl⟩) ?_ ?_
                  rotate_left
                  ·simp only [Act.put,aA,aB,aC,i64_w,i32_w]
                   rfl
                  refine pure_ (i:=21) (N:=some 69) (v:=undef) (a':=?_) #[true,true,true,true,true,true,true,true,true,true,true,true,true,true,true,true,true,true,true,true,true,true,false] rfl rfl (any_of HT_.out (by kernel_rfl)) (fun _ _ _ h=>h) (Or.inr ⟨by rfl,rfl⟩) ?_ ?_
                  rotate_left
                  ·simp only [Act.put,aA,aB,aC,i64_w,i32_w]
                   rfl
                  refine pure_ (i:=22) (N:=some 70) (v:=?_) (a':=?_) #[true,true,true,true,true,true,true,true,true,true,true,true,true,true,true,true,true,true,true,true,true,true,true] rfl rfl (any_of HT_.out (by kernel_rfl)) (fun _ _ _ h=>h) (Or.inl ⟨by rfl,?_⟩) ?_ ?_
                  rotate_left
                  ·intro w'
                   go_simp
                   with_reducible rfl
                  rotate_left
                  ·simp only [Act.put,aA,aB,aC,i64_w,i32_w]
                   rfl
                  refine done_ (done_of HT_.out (by kernel_rfl)) ?_
                  try go_wp2
                  go_roundg k3
                  case measure=>have:=HK1.out;have:=HK2.out;have:=HK3.out;omega
                  case rel=>exact ⟨(x8_2),(x9_3),(wrap64 (x44_2+1)),(by first|rfl|(simp;done)|(simp [*];done)),(by first|rfl|(simp;done)|(simp [*];done)),H',⟨by have:=HK1.out;have:=HK2.out;have:=HK3.out;omega⟩,⟨by (with_reducible repeat (first|apply Kd.Qe|apply Kd.Qd|apply Kd.R_drew));exact HO_9.out⟩,⟨by repeat (first|(with_reducible first|exact HB.out|apply Qc|apply Qa|apply Qb)|exact HB.out)⟩⟩
                ·rw [if_neg c21] at H;have c21b0:decide (0<x14_3)=false:=decide_eq_false c21;clear c21;have H':=aM H;clear H
                 try go_wp2
                 have n0_:=aM (Kd.R_drew HO_9.out);have n1_:=aM (Qb HB.out);clear HO_9;clear HB;have HO_9:=n0_;have HB:=n1_;clear n0_ n1_;have p107:0≤(x13_3:Int):=of_decide_eq_true (by first|(with_reducible assumption)|assumption);have q107:x13_3<(l0.length:Int):=of_decide_eq_true (by first|(with_reducible assumption)|assumption);obtain ⟨ad107,e107,hx107_0⟩:=Kd.at_int HR0.out x13_3 p107 q107;have hw107_0:=hx107_0
                 cases e107
                 replace hx107_0:=(HB.out.cell (aI w _ hx107_0)).trans hx107_0;replace p107:=eq_true p107;replace q107:=eq_true q107;refine start_ (n:=23) (S:=fun w'=>w'.cell? (ad107.add (x13_3).toNat)=some (.int .i64 (rd l0 x13_3))) (ds:=[]) #[false,false,false,false,false,false,false,false,false,false,false,false,false,false,false,false,false,false,false,false,false,false,false] (by kernel_rfl) rfl rfl (((HB.out.cell (aI w _ hw107_0)).trans hw107_0)) (fun hHeld=>?_);refine with_tabW impl_RingsOf.tab14 impl_RingsOf.bits14 (fun HT_ HW_=>?_)
                 generalize wr.drew=w25 at HO_9 HB hx107_0 hHeld ⊢
                 refine pure_ (i:=0) (N:=some 48) (v:=?_) (a':=?_) #[true,false,false,false,false,false,false,false,false,false,false,false,false,false,false,false,false,false,false,false,false,false,false] rfl rfl (any_of HT_.out (by kernel_rfl)) (fun _ _ _ h=>h) (Or.inl ⟨by rfl,?_⟩) ?_ ?_
                 rotate_left
                 ·intro w'
                  go_simp
                  with_reducible rfl
                 rotate_left
                 ·simp only [Act.put,aA,aB,aC,i64_w,i32_w]
                  rfl
                 refine pure_ (i:=1) (N:=some 49) (v:=?_) (a':=?_) #[true,true,false,false,false,false,false,false,false,false,false,false,false,false,false,false,false,false,false,false,false,false,false] rfl rfl (any_of HT_.out (by kernel_rfl)) (fun _ _ _ h=>h) (Or.inl ⟨by rfl,?_⟩) ?_ ?_
                 rotate_left
                 ·intro w'
                  go_simp
                  with_reducible rfl
                 rotate_left
                 ·simp only [Act.put,aA,aB,aC,i64_w,i32_w]
                  rfl
                 refine pure_ (i:=2) (N:=some 50) (v:=?_) (a':=?_) #[true,true,true,false,false,false,false,false,false,false,false,false,false,false,false,false,false,false,false,false,false,false,false] rfl rfl (any_of HT_.out (by kernel_rfl)) (fun _ _ _ h=>h) (Or.inl ⟨by rfl,?_⟩) ?_ ?_
                 rotate_left
                 ·intro w'
                  go_simp
                  with_reducible rfl
                 rotate_left
                 ·simp only [Act.put,aA,aB,aC,i64_w,i32_w]
                  rfl
                 refine take_ (i:=3) (N:=some 51) (v:=?_) (a':=?_) #[true,true,true,true,false,false,false,false,false,false,false,false,false,false,false,false,false,false,false,false,false,false,false] rfl rfl (take_ofW HT_.out HW_.out (by kernel_rfl)) (fun _ _ _ h=>h) (Or.inl ⟨by rfl,?_⟩) hHeld ?_ ?_
                 rotate_left
                 ·intro w' s0
                  go_simp
                  with_reducible rfl
                 rotate_left
                 ·simp only [Act.put,aA,aB,aC,i64_w,i32_w]
                  rfl
                 refine pure_ (i:=4) (N:=some 52) (v:=?_) (a':=?_) #[true,true,true,true,true,false,false,false,false,false,false,false,false,false,false,false,false,false,false,false,false,false,false] rfl rfl (any_of HT_.out (by kernel_rfl)) (fun _ _ _ h=>h) (Or.inl ⟨by rfl,?_⟩) ?_ ?_
                 rotate_left
                 ·intro w'
                  go_simp
                  with_reducible rfl
                 rotate_left
                 ·simp only [Act.put,aA,aB,aC,i64_w,i32_w]
                  rfl
                 refine pure_ (i:=5) (N:=some 53) (v:=?_) (a':=?_) #[true,true,true,true,true,true,false,false,false,false,false,false,false,false,false,false,false,false,false,false,false,false,false] rfl rfl (any_of HT_.out (by kernel_rfl)) (fun _ _ _ h=>h) (Or.inl ⟨by rfl,?_⟩) ?_ ?_
                 rotate_left
                 ·intro w'
                  go_simp
                  with_reducible rfl
                 rotate_left
                 ·simp only [Act.put,aA,aB,aC,i64_w,i32_w]
                  rfl
                 refine pure_ (i:=6) (N:=some 54) (v:=undef) (a':=?_) #[true,true,true,true,true,true,true,false,false,false,false,false,false,false,false,false,false,false,false,false,false,false,false] rfl rfl (any_of HT_.out (by kernel_rfl)) (fun _ _ _ h=>h) (Or.inr ⟨by rfl,rfl⟩) ?_ ?_
                 rotate_left
                 ·simp only [Act.put,aA,aB,aC,i64_w,i32_w]
                  rfl
                 refine pure_ (i:=7) (N:=some 55) (v:=undef) (a':=?_) #[true,true,true,true,true,true,true,true,false,false,false,false,false,false,false,false,false,false,false,false,false,false,false] rfl rfl (any_of HT_.out (by kernel_rfl)) (fun _ _ _ h=>h) (Or.inr ⟨by rfl,rfl⟩) ?_ ?_
                 rotate_left
                 ·simp only [Act.put,aA,aB,aC,i64_w,i32_w]
                  rfl
                 refine pure_ (i:=8) (N:=some 56) (v:=undef) (a':=?_) #[true,true,true,true,true,true,true,true,true,false,false,false,false,false,false,false,false,false,false,false,false,false,false] rfl rfl (any_of HT_.out (by kernel_rfl)) (fun _ _ _ h=>h) (Or.inr ⟨by rfl,rfl⟩) ?_ ?_
                 rotate_left
                 ·simp only [Act.put,aA,aB,aC,i64_w,i32_w]
                  rfl
                 refine pure_ (i:=9) (N:=some 57) (v:=undef) (a':=?_) #[true,true,true,true,true,true,true,true,true,true,false,false,false,false,false,false,false,false,false,false,false,false,false] rfl rfl (any_of HT_.out (by kernel_rfl)) (fun _ _ _ h=>h) (Or.inr ⟨by rfl,rfl⟩) ?_ ?_
                 rotate_left
                 ·simp only [Act.put,aA,aB,aC,i64_w,i32_w]
                  rfl
                 refine pure_ (i:=10) (N:=some 58) (v:=undef) (a':=?_) #[true,true,true,true,true,true,true,true,true,true,true,false,false,false,false,false,false,false,false,false,false,false,false] rfl rfl (any_of HT_.out (by kernel_rfl)) (fun _ _ _ h=>h) (Or.inr ⟨by rfl,rfl⟩) ?_ ?_
                 rotate_left
                 ·simp only [Act.put,aA,aB,aC,i64_w,i32_w]
                  rfl
                 refine pure_ (i:=11) (N:=some 59) (v:=undef) (a':=?_) #[true,true,true,true,true,true,true,true,true,true,true,true,false,false,false,false,false,false,false,false,false,false,false] rfl rfl (any_of HT_.out (by kernel_rfl)) (fun _ _ _ h=>h) (Or.inr ⟨by rfl,rfl⟩) ?_ ?_
                 rotate_left
                 ·simp only [Act.put,aA,aB,aC,i64_w,i32_w]
                  rfl
                 refine pure_ (i:=12) (N:=some 60) (v:=undef) (a':=?_) #[true,true,true,true,true,true,true,true,true,true,true,true,true,false,false,false,false,false,false,false,false,false,false] rfl rfl (any_of HT_.out (by kernel_rfl)) (fun _ _ _ h=>h) (Or.inr ⟨by rfl,rfl⟩) ?_ ?_
                 rotate_left
                 ·simp only [Act.put,aA,aB,aC,i64_w,i32_w]
                  rfl
                 refine pure_ (i:=13) (N:=some 61) (v:=undef) (a':=?_) #[true,true,true,true,true,true,true,true,true,true,true,true,true,true,false,false,false,false,false,false,false,false,false] rfl rfl (any_of HT_.out (by kernel_rfl)) (fun _ _ _ h=>h) (Or.inr ⟨by rfl,rfl⟩) ?_ ?_
                 rotate_left
                 ·simp only [Act.put,aA,aB,aC,i64_w,i32_w]
                  rfl
                 refine pure_ (i:=14) (N:=some 62) (v:=undef) (a':=?_) #[true,true,true,true,true,true,true,true,true,true,true,true,true,true,true,false,false,false,false,false,false,false,false] rfl rfl (any_of HT_.out (by kernel_rfl)) (fun _ _ _ h=>h) (Or.inr ⟨by rfl,rfl⟩) ?_ ?_
                 rotate_left
                 ·simp only [Act.put,aA,aB,aC,i64_w,i32_w]
                  rfl
                 refine pure_ (i:=15) (N:=some 63) (v:=?_) (a':=?_) #[true,true,true,true,true,true,true,true,true,true,true,true,true,true,true,true,false,false,false,false,false,false,false] rfl rfl (any_of HT_.out (by kernel_rfl)) (fun _ _ _ h=>h) (Or.inl ⟨by rfl,?_⟩) ?_ ?_
                 rotate_left
                 ·intro w'
                  go_simp
                  with_reducible rfl
                 rotate_left
                 ·simp only [Act.put,aA,aB,aC,i64_w,i32_w]
                  rfl
                 refine pure_ (i:=16) (N:=some 64) (v:=?_) (a':=?_) #[true,true,true,true,true,true,true,true,true,true,true,true,true,true,true,true,true,false,false,false,false,false,false] rfl rfl (any_of HT_.out (by kernel_rfl)) (fun _ _ _ h=>h) (Or.inl ⟨by rfl,?_⟩) ?_ ?_
                 rotate_left
                 ·intro w'
                  go_simp
                  with_reducible rfl
                 rotate_left
                 ·simp only [Act.put,aA,aB,aC,i64_w,i32_w]
                  rfl
                 refine pure_ (i:=17) (N:=some 65) (v:=undef) (a':=?_) #[true,true,true,true,true,true,true,true,true,true,true,true,true,true,true,true,true,true,false,false,false,false,false] rfl rfl (any_of HT_.out (by kernel_rfl)) (fun _ _ _ h=>h) (Or.inr ⟨by rfl,rfl⟩) ?_ ?_
                 rotate_left
                 ·simp only [Act.put,aA,aB,aC,i64_w,i32_w]
                  rfl
                 refine pure_ (i:=18) (N:=some 66) (v:=undef) (a':=?_) #[true,true,true,true,true,true,true,true,true,true,true,true,true,true,true,true,true,true,true,false,false,false,false] rfl rfl (any_of HT_.out (by kernel_rfl)) (fun _ _ _ h=>h) (Or.inr ⟨by rfl,rfl⟩) ?_ ?_
                 rotate_left
                 ·simp only [Act.put,aA,aB,aC,i64_w,i32_w]
                  rfl
                 refine pure_ (i:=19) (N:=some 67) (v:=undef) (a':=?_) #[true,true,true,true,true,true,true,true,true,true,true,true,true,true,true,true,true,true,true,true,false,false,false] rfl rfl (any_of HT_.out (by kernel_rfl)) (fun _ _ _ h=>h) (Or.inr ⟨by rfl,rfl⟩) ?_ ?_
                 rotate_left
                 ·simp only [Act.put,aA,aB,aC,i64_w,i32_w]
                  rfl
                 refine pure_ (i:=20) (N:=some 68) (v:=undef) (a':=?_) #[true,true,true,true,true,true,true,true,true,true,true,true,true,true,true,true,true,true,true,true,true,false,false] rfl rfl (any_of HT_.out (by kernel_rfl)) (fun _ _ _ h=>h) (Or.inr ⟨by rfl,rfl⟩) ?_ ?_
                 rotate_left
                 ·simp only [Act.put,aA,aB,aC,i64_w,i32_w]
                  rfl
                 refine pure_ (i:=21) (N:=some 69) (v:=undef) (a':=?_) #[true,true,true,true,true,true,true,true,true,true,true,true,true,true,true,true,true,true,true,true,true,true,false] rfl rfl (any_of HT_.out (by kernel_rfl)) (fun _ _ _ h=>h) (Or.inr ⟨by rfl,rfl⟩) ?_ ?_
                 rotate_left
                 ·simp only [Act.put,aA,aB,aC,i64_w,i32_w]
                  rfl
                 refine pure_ (i:=22) (N:=some 70) (v:=?_) (a':=?_) #[true,true,true,true,true,true,true,true,true,true,true,true,true,true,true,true,true,true,true,true,true,true,true] rfl rfl (any_of HT_.out (by kernel_rfl)) (fun _ _ _ h=>h) (Or.inl ⟨by rfl,?_⟩) ?_ ?_
                 rotate_left
                 ·intro w'
                  go_simp
                  with_reducible rfl
                 rotate_left
                 ·simp only [Act.put,aA,aB,aC,i64_w,i32_w]
                  rfl
                 refine done_ (done_of HT_.out (by kernel_rfl)) ?_
                 try go_wp2
                 go_roundg k3
                 case measure=>have:=HK1.out;have:=HK2.out;have:=HK3.out;omega
                 case rel=>exact ⟨(x8_2),(x9_3),(wrap64 (x44_2+1)),(by first|rfl|(simp;done)|(simp [*];done)),(by first|rfl|(simp;done)|(simp [*];done)),H',⟨by have:=HK1.out;have:=HK2.out;have:=HK3.out;omega⟩,⟨by (with_reducible repeat (first|apply Kd.Qe|apply Kd.Qd|apply Kd.R_drew));exact HO_9.out⟩,⟨by repeat (first|(with_reducible first|exact HB.out|apply Qc|apply Qa|apply Qb)|exact HB.out)⟩⟩
               ·rw [if_neg c20] at H;have c20b0:((rd l0 x13_3) == 0)=false:=beq_eq_false_iff_ne.mpr c20;have c20b1:((rd l0 x13_3) != 0)=true:=bne_iff_ne.mpr c20;by_cases c26:x13_3<(l1.length:Int)
                ·rw [if_pos c26] at H;have c26b0:decide (x13_3<(l1.length:Int))=true:=decide_eq_true c26;clear c26;by_cases c27:(rd l0 x13_3)=(rd l1 x13_3)
                 ·rw [if_pos c27] at H;have c27b0:((rd l0 x13_3) == (rd l1 x13_3))=true:=beq_iff_eq.mpr c27;have c27b1:((rd l0 x13_3) != (rd l1 x13_3))=false:=bne_eq_false_iff_eq.mpr c27;clear c27;by_cases c28:x14_3 > 0
                  ·rw [if_pos c28] at H;have c28b0:decide (0<x14_3)=true:=decide_eq_true c28;clear c28;by_cases c29:x13_3=x44_2
                   ·rw [if_pos c29] at H;have c29b0:(x13_3 == x44_2)=true:=beq_iff_eq.mpr c29;have c29b1:(x13_3 != x44_2)=false:=bne_eq_false_iff_eq.mpr c29;clear c29;have H':=aM H;clear H
                    try go_wp2
                    have n0_:=aM (Kd.R_drew HO_9.out);have n1_:=aM (Qb HB.out);clear HO_9;clear HB;have HO_9:=n0_;have HB:=n1_;clear n0_ n1_;have p107:0≤(x13_3:Int):=of_decide_eq_true (by first|(with_reducible assumption)|assumption);have q107:x13_3<(l0.length:Int):=of_decide_eq_true (by first|(with_reducible assumption)|assumption);obtain ⟨ad107,e107,hx107_0⟩:=Kd.at_int HR0.out x13_3 p107 q107;have hw107_0:=hx107_0
                    cases e107
                    replace hx107_0:=(HB.out.cell (aI w _ hx107_0)).trans hx107_0;replace p107:=eq_true p107;replace q107:=eq_true q107;have p108:0≤(x13_3:Int):=of_decide_eq_true (by first|(with_reducible assumption)|assumption);have q108:x13_3<(l0.length:Int):=of_decide_eq_true (by first|(with_reducible assumption)|assumption);obtain ⟨ad108,e108,hx108_0⟩:=Kd.at_int HR0.out x13_3 p108 q108;have hw108_0:=hx108_0;obtain rfl:ad107=ad108:=(by injection e108);replace hx108_0:=(HB.out.cell (aI w _ hx108_0)).trans hx108_0;replace p108:=eq_true p108;replace q108:=eq_true q108;have p109:0≤(x13_3:Int):=of_decide_eq_true (by first|(with_reducible assumption)|assumption);have q109:x13_3<(l1.length:Int):=of_decide_eq_true (by first|(with_reducible assumption)|assumption);obtain ⟨ad109,e109,hx109_0⟩:=Kd.at_int HR1.out x13_3 p109 q109;have hw109_0:=hx109_0
                    cases e109
                    replace hx109_0:=(HB.out.cell (aI w _ hx109_0)).trans hx109_0;replace p109:=eq_true p109;replace q109:=eq_true q109;refine start_ (n:=23) (S:=fun w'=>w'.cell? (ad107.add (x13_3).toNat)=some (.int .i64 (rd l0 x13_3))∧w'.cell? (ad107.add (x13_3).toNat)=some (.int .i64 (rd l0 x13_3))∧w'.cell? (ad109.add (x13_3).toNat)=some (.int .i64 (rd l1 x13_3))) (ds:=[]) #[false,false,false,false,false,false,false,false,false,false,false,false,false,false,false,false,false,false,false,false,false,false,false] (by kernel_rfl) rfl rfl ⟨((HB.out.cell (aI w _ hw107_0)).trans hw107_0),((HB.out.cell (aI w _ hw108_0)).trans hw108_0),((HB.out.cell (aI w _ hw109_0)).trans hw109_0)⟩ (fun hHeld=>?_);refine with_tabW impl_RingsOf.tab14 impl_RingsOf.bits14 (fun HT_ HW_=>?_)
                    generalize wr.drew=w30 at HO_9 HB hx107_0 hx108_0 hx109_0 hHeld ⊢
                    refine pure_ (i:=0) (N:=some 48) (v:=?_) (a':=?_) #[true,false,false,false,false,false,false,false,false,false,false,false,false,false,false,false,false,false,false,false,false,false,false] rfl rfl (any_of HT_.out (by kernel_rfl)) (fun _ _ _ h=>h) (Or.inl ⟨by rfl,?_⟩) ?_ ?_
                    rotate_left
                    ·intro w'
                     go_simp
                     with_reducible rfl
                    rotate_left
                    ·simp only [Act.put,aA,aB,aC,i64_w,i32_w]
                     rfl
                    refine pure_ (i:=1) (N:=some 49) (v:=?_) (a':=?_) #[true,true,false,false,false,false,false,false,false,false,false,false,false,false,false,false,false,false,false,false,false,false,false] rfl rfl (any_of HT_.out (by kernel_rfl)) (fun _ _ _ h=>h) (Or.inl ⟨by rfl,?_⟩) ?_ ?_
                    rotate_left
                    ·intro w'
                     go_simp
                     with_reducible rfl
                    rotate_left
                    ·simp only [Act.put,aA,aB,aC,i64_w,i32_w]
                     rfl
                    refine pure_ (i:=2) (N:=some 50) (v:=?_) (a':=?_) #[true,true,true,false,false,false,false,false,false,false,false,false,false,false,false,false,false,false,false,false,false,false,false] rfl rfl (any_of HT_.out (by kernel_rfl)) (fun _ _ _ h=>h) (Or.inl ⟨by rfl,?_⟩) ?_ ?_
                    rotate_left
                    ·intro w'
                     go_simp
                     with_reducible rfl
                    rotate_left
                    ·simp only [Act.put,aA,aB,aC,i64_w,i32_w]
                     rfl
                    refine take_ (i:=3) (N:=some 51) (v:=?_) (a':=?_) #[true,true,true,true,false,false,false,false,false,false,false,false,false,false,false,false,false,false,false,false,false,false,false] rfl rfl (take_ofW HT_.out HW_.out (by kernel_rfl)) (fun _ _ _ h=>h) (Or.inl ⟨by rfl,?_⟩) hHeld ?_ ?_
                    rotate_left
                    ·rintro w' ⟨s0,s1,s2⟩
                     go_simp
                     with_reducible rfl
                    rotate_left
                    ·simp only [Act.put,aA,aB,aC,i64_w,i32_w]
                     rfl
                    refine pure_ (i:=4) (N:=some 52) (v:=?_) (a':=?_) #[true,true,true,true,true,false,false,false,false,false,false,false,false,false,false,false,false,false,false,false,false,false,false] rfl rfl (any_of HT_.out (by kernel_rfl)) (fun _ _ _ h=>h) (Or.inl ⟨by rfl,?_⟩) ?_ ?_
                    rotate_left
                    ·intro w'
                     go_simp
                     with_reducible rfl
                    rotate_left
                    ·simp only [Act.put,aA,aB,aC,i64_w,i32_w]
                     rfl
                    refine pure_ (i:=5) (N:=some 53) (v:=?_) (a':=?_) #[true,true,true,true,true,true,false,false,false,false,false,false,false,false,false,false,false,false,false,false,false,false,false] rfl rfl (any_of HT_.out (by kernel_rfl)) (fun _ _ _ h=>h) (Or.inl ⟨by rfl,?_⟩) ?_ ?_
                    rotate_left
                    ·intro w'
                     go_simp
                     with_reducible rfl
                    rotate_left
                    ·simp only [Act.put,aA,aB,aC,i64_w,i32_w]
                     rfl
                    refine pure_ (i:=6) (N:=some 54) (v:=?_) (a':=?_) #[true,true,true,true,true,true,true,false,false,false,false,false,false,false,false,false,false,false,false,false,false,false,false] rfl rfl (any_of HT_.out (by kernel_rfl)) (fun _ _ _ h=>h) (Or.inl ⟨by rfl,?_⟩) ?_ ?_
                    rotate_left
                    ·intro w'
                     go_simp
                     with_reducible rfl
                    rotate_left
                    ·simp only [Act.put,aA,aB,aC,i64_w,i32_w]
                     rfl
                    refine pure_ (i:=7) (N:=some 55) (v:=?_) (a':=?_) #[true,true,true,true,true,true,true,true,false,false,false,false,false,false,false,false,false,false,false,false,false,false,false] rfl rfl (any_of HT_.out (by kernel_rfl)) (fun _ _ _ h=>h) (Or.inl ⟨by rfl,?_⟩) ?_ ?_
                    rotate_left
                    ·intro w'
                     go_simp
                     with_reducible rfl
                    rotate_left
                    ·simp only [Act.put,aA,aB,aC,i64_w,i32_w]
                     rfl
                    refine pure_ (i:=8) (N:=some 56) (v:=?_) (a':=?_) #[true,true,true,true,true,true,true,true,true,false,false,false,false,false,false,false,false,false,false,false,false,false,false] rfl rfl (any_of HT_.out (by kernel_rfl)) (fun _ _ _ h=>h) (Or.inl ⟨by rfl,?_⟩) ?_ ?_
                    rotate_left
                    ·intro w'
                     go_simp
                     with_reducible rfl
                    rotate_left
                    ·simp only [Act.put,aA,aB,aC,i64_w,i32_w]
                     rfl
                    refine pure_ (i:=10) (N:=some 58) (v:=?_) (a':=?_) #[true,true,true,true,true,true,true,true,true,false,true,false,false,false,false,false,false,false,false,false,false,false,false] rfl rfl (any_of HT_.out (by kernel_rfl)) (fun _ _ _ h=>h) (Or.inl ⟨by rfl,?_⟩) ?_ ?_
                    rotate_left
                    ·intro w'
                     go_simp
                     with_reducible rfl
                    rotate_left
                    ·simp only [Act.put,aA,aB,aC,i64_w,i32_w]
                     rfl
                    refine pure_ (i:=11) (N:=some 59) (v:=?_) (a':=?_) #[true,true,true,true,true,true,true,true,true,false,true,true,false,false,false,false,false,false,false,false,false,false,false] rfl rfl (any_of HT_.out (by kernel_rfl)) (fun _ _ _ h=>h) (Or.inl ⟨by rfl,?_⟩) ?_ ?_
                    rotate_left
                    ·intro w'
                     go_simp
                     with_reducible rfl
                    rotate_left
                    ·simp only [Act.put,aA,aB,aC,i64_w,i32_w]
                     rfl
                    refine pure_ (i:=12) (N:=some 60) (v:=?_) (a':=?_) #[true,true,true,true,true,true,true,true,true,false,true,true,true,false,false,false,false,false,false,false,false,false,false] rfl rfl (any_of HT_.out (by kernel_rfl)) (fun _ _ _ h=>h) (Or.inl ⟨by rfl,?_⟩) ?_ ?_
                    rotate_left
                    ·intro w'
                     go_simp
                     with_reducible rfl
                    rotate_left
                    ·simp only [Act.put,aA,aB,aC,i64_w,i32_w]
                     rfl
                    refine take_ (i:=9) (N:=some 57) (v:=?_) (a':=?_) #[true,true,true,true,true,true,true,true,true,true,true,true,true,false,false,false,false,false,false,false,false,false,false] rfl rfl (take_ofW HT_.out HW_.out (by kernel_rfl)) (fun _ _ _ h=>h) (Or.inl ⟨by rfl,?_⟩) hHeld ?_ ?_
                    rotate_left
                    ·rintro w' ⟨s0,s1,s2⟩
                     go_simp
                     with_reducible rfl
                    rotate_left
                    ·simp only [Act.put,aA,aB,aC,i64_w,i32_w]
                     rfl
                    refine take_ (i:=13) (N:=some 61) (v:=?_) (a':=?_) #[true,true,true,true,true,true,true,true,true,true,true,true,true,true,false,false,false,false,false,false,false,false,false] rfl rfl (take_ofW HT_.out HW_.out (by kernel_rfl)) (fun _ _ _ h=>h) (Or.inl ⟨by rfl,?_⟩) hHeld ?_ ?_
                    rotate_left
                    ·rintro w' ⟨s0,s1,s2⟩
                     go_simp
                     with_reducible rfl
                    rotate_left
                    ·simp only [Act.put,aA,aB,aC,i64_w,i32_w]
                     rfl
                    refine pure_ (i:=14) (N:=some 62) (v:=?_) (a':=?_) #[true,true,true,true,true,true,true,true,true,true,true,true,true,true,true,false,false,false,false,false,false,false,false] rfl rfl (any_of HT_.out (by kernel_rfl)) (fun _ _ _ h=>h) (Or.inl ⟨by rfl,?_⟩) ?_ ?_
                    rotate_left
                    ·intro w'
                     go_simp
                     with_reducible rfl
                    rotate_left
                    ·simp only [Act.put,aA,aB,aC,i64_w,i32_w]
                     rfl
                    refine pure_ (i:=15) (N:=some 63) (v:=?_) (a':=?_) #[true,true,true,true,true,true,true,true,true,true,true,true,true,true,true,true,false,false,false,false,false,false,false] rfl rfl (any_of HT_.out (by kernel_rfl)) (fun _ _ _ h=>h) (Or.inl ⟨by rfl,?_⟩) ?_ ?_
                    rotate_left
                    ·intro w'
                     go_simp
                     with_reducible rfl
                    rotate_left
                    ·simp only [Act.put,aA,aB,aC,i64_w,i32_w]
                     rfl
                    refine pure_ (i:=16) (N:=some 64) (v:=?_) (a':=?_) #[true,true,true,true,true,true,true,true,true,true,true,true,true,true,true,true,true,false,false,false,false,false,false] rfl rfl (any_of HT_.out (by kernel_rfl)) (fun _ _ _ h=>h) (Or.inl ⟨by rfl,?_⟩) ?_ ?_
                    rotate_left
                    ·intro w'
                     go_simp
                     with_reducible rfl
                    rotate_left
                    ·simp only [Act.put,aA,aB,aC,i64_w,i32_w]
                     rfl
                    refine pure_ (i:=17) (N:=some 65) (v:=undef) (a':=?_) #[true,true,true,true,true,true,true,true,true,true,true,true,true,true,true,true,true,true,false,false,false,false,false] rfl rfl (any_of HT_.out (by kernel_rfl)) (fun _ _ _ h=>h) (Or.inr ⟨by rfl,rfl⟩) ?_ ?_
                    rotate_left
                    ·simp only [Act.put,aA,aB,aC,i64_w,i32_w]
                     rfl
                    refine pure_ (i:=18) (N:=some 66) (v:=undef) (a':=?_) #[true,true,true,true,true,true,true,true,true,true,true,true,true,true,true,true,true,true,true,false,false,false,false] rfl rfl (any_of HT_.out (by kernel_rfl)) (fun _ _ _ h=>h) (Or.inr ⟨by rfl,rfl⟩) ?_ ?_
                    rotate_left
                    ·simp only [Act.put,aA,aB,aC,i64_w,i32_w]
                     rfl
                    refine pure_ (i:=19) (N:=some 67) (v:=undef) (a':=?_) #[true,true,true,true,true,true,true,true,true,true,true,true,true,true,true,true,true,true,true,true,false,false,false] rfl rfl (any_of HT_.out (by kernel_rfl)) (fun _ _ _ h=>h) (Or.inr ⟨by rfl,rfl⟩) ?_ ?_
                    rotate_left
                    ·simp only [Act.put,aA,aB,aC,i64_w,i32_w]
                     rfl
                    refine pure_ (i:=20) (N:=some 68) (v:=undef) (a':=?_) #[true,true,true,true,true,true,true,true,true,true,true,true,true,true,true,true,true,true,true,true,true,false,false] rfl rfl (any_of HT_.out (by kernel_rfl)) (fun _ _ _ h=>h) (Or.inr ⟨by rfl,rfl⟩) ?_ ?_
                    rotate_left
                    ·simp only [Act.put,aA,aB,aC,i64_w,i32_w]
                     rfl
                    refine pure_ (i:=21) (N:=some 69) (v:=undef) (a':=?_) #[true,true,true,true,true,true,true,true,true,true,true,true,true,true,true,true,true,true,true,true,true,true,false] rfl rfl (any_of HT_.out (by kernel_rfl)) (fun _ _ _ h=>h) (Or.inr ⟨by rfl,rfl⟩) ?_ ?_
                    rotate_left
                    ·simp only [Act.put,aA,aB,aC,i64_w,i32_w]
                     rfl
                    refine pure_ (i:=22) (N:=some 70) (v:=?_) (a':=?_) #[true,true,true,true,true,true,true,true,true,true,true,true,true,true,true,true,true,true,true,true,true,true,true] rfl rfl (any_of HT_.out (by kernel_rfl)) (fun _ _ _ h=>h) (Or.inl ⟨by rfl,?_⟩) ?_ ?_
                    rotate_left
                    ·intro w'
                     go_simp
                     with_reducible rfl
                    rotate_left
                    ·simp only [Act.put,aA,aB,aC,i64_w,i32_w]
                     rfl
                    refine done_ (done_of HT_.out (by kernel_rfl)) ?_
                    try go_wp2
                    go_roundg k3
                    case measure=>have:=HK1.out;have:=HK2.out;have:=HK3.out;omega
                    case rel=>exact ⟨(wrap64 (x8_2+1)),(x9_3),(wrap64 (x44_2+1)),(by first|rfl|(simp;done)|(simp [*];done)),(by first|rfl|(simp;done)|(simp [*];done)),H',⟨by have:=HK1.out;have:=HK2.out;have:=HK3.out;omega⟩,⟨by (with_reducible repeat (first|apply Kd.Qe|apply Kd.Qd|apply Kd.R_drew));exact HO_9.out⟩,⟨by repeat (first|(with_reducible first|exact HB.out|apply Qc|apply Qa|apply Qb)|exact HB.out)⟩⟩
                   ·rw [if_neg c29] at H;have c29b0:(x13_3 == x44_2)=false:=beq_eq_false_iff_ne.mpr c29;have c29b1:(x13_3 != x44_2)=true:=bne_iff_ne.mpr c29;have H':=aM H;clear H
                    try go_wp2
                    have n0_:=aM (Kd.R_drew HO_9.out);have n1_:=aM (Qb HB.out);clear HO_9;clear HB;have HO_9:=n0_;have HB:=n1_;clear n0_ n1_;have p107:0≤(x13_3:Int):=of_decide_eq_true (by first|(with_reducible assumption)|assumption);have q107:x13_3<(l0.length:Int):=of_decide_eq_true (by first|(with_reducible assumption)|assumption);obtain ⟨ad107,e107,hx107_0⟩:=Kd.at_int HR0.out x13_3 p107 q107;have hw107_0:=hx107_0
                    cases e107
                    replace hx107_0:=(HB.out.cell (aI w _ hx107_0)).trans hx107_0;replace p107:=eq_true p107;replace q107:=eq_true q107;have p108:0≤(x13_3:Int):=of_decide_eq_true (by first|(with_reducible assumption)|assumption);have q108:x13_3<(l0.length:Int):=of_decide_eq_true (by first|(with_reducible assumption)|assumption);obtain ⟨ad108,e108,hx108_0⟩:=Kd.at_int HR0.out x13_3 p108 q108;have hw108_0:=hx108_0;obtain rfl:ad107=ad108:=(by injection e108);replace hx108_0:=(HB.out.cell (aI w _ hx108_0)).trans hx108_0;replace p108:=eq_true p108;replace q108:=eq_true q108;have p109:0≤(x13_3:Int):=of_decide_eq_true (by first|(with_reducible assumption)|assumption);have q109:x13_3<(l1.length:Int):=of_decide_eq_true (by first|(with_reducible assumption)|assumption);obtain ⟨ad109,e109,hx109_0⟩:=Kd.at_int HR1.out x13_3 p109 q109;have hw109_0:=hx109_0
                    cases e109
                    replace hx109_0:=(HB.out.cell (aI w _ hx109_0)).trans hx109_0;replace p109:=eq_true p109;replace q109:=eq_true q109;refine start_ (n:=23) (S:=fun w'=>w'.cell? (ad107.add (x13_3).toNat)=some (.int .i64 (rd l0 x13_3))∧w'.cell? (ad107.add (x13_3).toNat)=some (.int .i64 (rd l0 x13_3))∧w'.cell? (ad109.add (x13_3).toNat)=some (.int .i64 (rd l1 x13_3))) (ds:=[]) #[false,false,false,false,false,false,false,false,false,false,false,false,false,false,false,false,false,false,false,false,false,false,false] (by kernel_rfl) rfl rfl ⟨((HB.out.cell (aI w _ hw107_0)).trans hw107_0),((HB.out.cell (aI w _ hw108_0)).trans hw108_0),((HB.out.cell (aI w _ hw109_0)).trans hw109_0)⟩ (fun hHeld=>?_);refine with_tabW impl_RingsOf.tab14 impl_RingsOf.bits14 (fun HT_ HW_=>?_)
                    generalize wr.drew=w31 at HO_9 HB hx107_0 hx108_0 hx109_0 hHeld ⊢
                    refine pure_ (i:=0) (N:=some 48) (v:=?_) (a':=?_) #[true,false,false,false,false,false,false,false,false,false,false,false,false,false,false,false,false,false,false,false,false,false,false] rfl rfl (any_of HT_.out (by kernel_rfl)) (fun _ _ _ h=>h) (Or.inl ⟨by rfl,?_⟩) ?_ ?_
                    rotate_left
                    ·intro w'
                     go_simp
                     with_reducible rfl
                    rotate_left
                    ·simp only [Act.put,aA,aB,aC,i64_w,i32_w]
                     rfl
                    refine pure_ (i:=1) (N:=some 49) (v:=?_) (a':=?_) #[true,true,false,false,false,false,false,false,false,false,false,false,false,false,false,false,false,false,false,false,false,false,false] rfl rfl (any_of HT_.out (by kernel_rfl)) (fun _ _ _ h=>h) (Or.inl ⟨by rfl,?_⟩) ?_ ?_
                    rotate_left
                    ·intro w'
                     go_simp
                     with_reducible rfl
                    rotate_left
                    ·simp only [Act.put,aA,aB,aC,i64_w,i32_w]
                     rfl
                    refine pure_ (i:=2) (N:=some 50) (v:=?_) (a':=?_) #[true,true,true,false,false,false,false,false,false,false,false,false,false,false,false,false,false,false,false,false,false,false,false] rfl rfl (any_of HT_.out (by kernel_rfl)) (fun _ _ _ h=>h) (Or.inl ⟨by rfl,?_⟩) ?_ ?_
                    rotate_left
                    ·intro w'
                     go_simp
                     with_reducible rfl
                    rotate_left
                    ·simp only [Act.put,aA,aB,aC,i64_w,i32_w]
                     rfl
                    refine take_ (i:=3) (N:=some 51) (v:=?_) (a':=?_) #[true,true,true,true,false,false,false,false,false,false,false,false,false,false,false,false,false,false,false,false,false,false,false] rfl rfl (take_ofW HT_.out HW_.out (by kernel_rfl)) (fun _ _ _ h=>h) (Or.inl ⟨by rfl,?_⟩) hHeld ?_ ?_
                    rotate_left
                    ·rintro w' ⟨s0,s1,s2⟩
                     go_simp
                     with_reducible rfl
                    rotate_left
                    ·simp only [Act.put,aA,aB,aC,i64_w,i32_w]
                     rfl
                    refine pure_ (i:=4) (N:=some 52) (v:=?_) (a':=?_) #[true,true,true,true,true,false,false,false,false,false,false,false,false,false,false,false,false,false,false,false,false,false,false] rfl rfl (any_of HT_.out (by kernel_rfl)) (fun _ _ _ h=>h) (Or.inl ⟨by rfl,?_⟩) ?_ ?_
                    rotate_left
                    ·intro w'
                     go_simp
                     with_reducible rfl
                    rotate_left
                    ·simp only [Act.put,aA,aB,aC,i64_w,i32_w]
                     rfl
                    refine pure_ (i:=5) (N:=some 53) (v:=?_) (a':=?_) #[true,true,true,true,true,true,false,false,false,false,false,false,false,false,false,false,false,false,false,false,false,false,false] rfl rfl (any_of HT_.out (by kernel_rfl)) (fun _ _ _ h=>h) (Or.inl ⟨by rfl,?_⟩) ?_ ?_
                    rotate_left
                    ·intro w'
                     go_simp
                     with_reducible rfl
                    rotate_left
                    ·simp only [Act.put,aA,aB,aC,i64_w,i32_w]
                     rfl
                    refine pure_ (i:=6) (N:=some 54) (v:=?_) (a':=?_) #[true,true,true,true,true,true,true,false,false,false,false,false,false,false,false,false,false,false,false,false,false,false,false] rfl rfl (any_of HT_.out (by kernel_rfl)) (fun _ _ _ h=>h) (Or.inl ⟨by rfl,?_⟩) ?_ ?_
                    rotate_left
                    ·intro w'
                     go_simp
                     with_reducible rfl
                    rotate_left
                    ·simp only [Act.put,aA,aB,aC,i64_w,i32_w]
                     rfl
                    refine pure_ (i:=7) (N:=some 55) (v:=?_) (a':=?_) #[true,true,true,true,true,true,true,true,false,false,false,false,false,false,false,false,false,false,false,false,false,false,false] rfl rfl (any_of HT_.out (by kernel_rfl)) (fun _ _ _ h=>h) (Or.inl ⟨by rfl,?_⟩) ?_ ?_
                    rotate_left
                    ·intro w'
                     go_simp
                     with_reducible rfl
                    rotate_left
                    ·simp only [Act.put,aA,aB,aC,i64_w,i32_w]
                     rfl
                    refine pure_ (i:=8) (N:=some 56) (v:=?_) (a':=?_) #[true,true,true,true,true,true,true,true,true,false,false,false,false,false,false,false,false,false,false,false,false,false,false] rfl rfl (any_of HT_.out (by kernel_rfl)) (fun _ _ _ h=>h) (Or.inl ⟨by rfl,?_⟩) ?_ ?_
                    rotate_left
                    ·intro w'
                     go_simp
                     with_reducible rfl
                    rotate_left
                    ·simp only [Act.put,aA,aB,aC,i64_w,i32_w]
                     rfl
                    refine pure_ (i:=10) (N:=some 58) (v:=?_) (a':=?_) #[true,true,true,true,true,true,true,true,true,false,true,false,false,false,false,false,false,false,false,false,false,false,false] rfl rfl (any_of HT_.out (by kernel_rfl)) (fun _ _ _ h=>h) (Or.inl ⟨by rfl,?_⟩) ?_ ?_
                    rotate_left
                    ·intro w'
                     go_simp
                     with_reducible rfl
                    rotate_left
                    ·simp only [Act.put,aA,aB,aC,i64_w,i32_w]
                     rfl
                    refine pure_ (i:=11) (N:=some 59) (v:=?_) (a':=?_) #[true,true,true,true,true,true,true,true,true,false,true,true,false,false,false,false,false,false,false,false,false,false,false] rfl rfl (any_of HT_.out (by kernel_rfl)) (fun _ _ _ h=>h) (Or.inl ⟨by rfl,?_⟩) ?_ ?_
                    rotate_left
                    ·intro w'
                     go_simp
                     with_reducible rfl
                    rotate_left
                    ·simp only [Act.put,aA,aB,aC,i64_w,i32_w]
                     rfl
                    refine pure_ (i:=12) (N:=some 60) (v:=?_) (a':=?_) #[true,true,true,true,true,true,true,true,true,false,true,true,true,false,false,false,false,false,false,false,false,false,false] rfl rfl (any_of HT_.out (by kernel_rfl)) (fun _ _ _ h=>h) (Or.inl ⟨by rfl,?_⟩) ?_ ?_
                    rotate_left
                    ·intro w'
                     go_simp
                     with_reducible rfl
                    rotate_left
                    ·simp only [Act.put,aA,aB,aC,i64_w,i32_w]
                     rfl
                    refine take_ (i:=9) (N:=some 57) (v:=?_) (a':=?_) #[true,true,true,true,true,true,true,true,true,true,true,true,true,false,false,false,false,false,false,false,false,false,false] rfl rfl (take_ofW HT_.out HW_.out (by kernel_rfl)) (fun _ _ _ h=>h) (Or.inl ⟨by rfl,?_⟩) hHeld ?_ ?_
                    rotate_left
                    ·rintro w' ⟨s0,s1,s2⟩
                     go_simp
                     with_reducible rfl
                    rotate_left
                    ·simp only [Act.put,aA,aB,aC,i64_w,i32_w]
                     rfl
                    refine take_ (i:=13) (N:=some 61) (v:=?_) (a':=?_) #[true,true,true,true,true,true,true,true,true,true,true,true,true,true,false,false,false,false,false,false,false,false,false] rfl rfl (take_ofW HT_.out HW_.out (by kernel_rfl)) (fun _ _ _ h=>h) (Or.inl ⟨by rfl,?_⟩) hHeld ?_ ?_
                    rotate_left
                    ·rintro w' ⟨s0,s1,s2⟩
                     go_simp
                     with_reducible rfl
                    rotate_left
                    ·simp only [Act.put,aA,aB,aC,i64_w,i32_w]
                     rfl
                    refine pure_ (i:=14) (N:=some 62) (v:=?_) (a':=?_) #[true,true,true,true,true,true,true,true,true,true,true,true,true,true,true,false,false,false,false,false,false,false,false] rfl rfl (any_of HT_.out (by kernel_rfl)) (fun _ _ _ h=>h) (Or.inl ⟨by rfl,?_⟩) ?_ ?_
                    rotate_left
                    ·intro w'
                     go_simp
                     with_reducible rfl
                    rotate_left
                    ·simp only [Act.put,aA,aB,aC,i64_w,i32_w]
                     rfl
                    refine pure_ (i:=15) (N:=some 63) (v:=?_) (a':=?_) #[true,true,true,true,true,true,true,true,true,true,true,true,true,true,true,true,false,false,false,false,false,false,false] rfl rfl (any_of HT_.out (by kernel_rfl)) (fun _ _ _ h=>h) (Or.inl ⟨by rfl,?_⟩) ?_ ?_
                    rotate_left
                    ·intro w'
                     go_simp
                     with_reducible rfl
                    rotate_left
                    ·simp only [Act.put,aA,aB,aC,i64_w,i32_w]
                     rfl
                    refine pure_ (i:=16) (N:=some 64) (v:=?_) (a':=?_) #[true,true,true,true,true,true,true,true,true,true,true,true,true,true,true,true,true,false,false,false,false,false,false] rfl rfl (any_of HT_.out (by kernel_rfl)) (fun _ _ _ h=>h) (Or.inl ⟨by rfl,?_⟩) ?_ ?_
                    rotate_left
                    ·intro w'
                     go_simp
                     with_reducible rfl
                    rotate_left
                    ·simp only [Act.put,aA,aB,aC,i64_w,i32_w]
                     rfl
                    refine pure_ (i:=17) (N:=some 65) (v:=undef) (a':=?_) #[true,true,true,true,true,true,true,true,true,true,true,true,true,true,true,true,true,true,false,false,false,false,false] rfl rfl (any_of HT_.out (by kernel_rfl)) (fun _ _ _ h=>h) (Or.inr ⟨by rfl,rfl⟩) ?_ ?_
                    rotate_left
                    ·simp only [Act.put,aA,aB,aC,i64_w,i32_w]
                     rfl
                    refine pure_ (i:=18) (N:=some 66) (v:=undef) (a':=?_) #[true,true,true,true,true,true,true,true,true,true,true,true,true,true,true,true,true,true,true,false,false,false,false] rfl rfl (any_of HT_.out (by kernel_rfl)) (fun _ _ _ h=>h) (Or.inr ⟨by rfl,rfl⟩) ?_ ?_
                    rotate_left
                    ·simp only [Act.put,aA,aB,aC,i64_w,i32_w]
                     rfl
                    refine pure_ (i:=19) (N:=some 67) (v:=undef) (a':=?_) #[true,true,true,true,true,true,true,true,true,true,true,true,true,true,true,true,true,true,true,true,false,false,false] rfl rfl (any_of HT_.out (by kernel_rfl)) (fun _ _ _ h=>h) (Or.inr ⟨by rfl,rfl⟩) ?_ ?_
                    rotate_left
                    ·simp only [Act.put,aA,aB,aC,i64_w,i32_w]
                     rfl
                    refine pure_ (i:=20) (N:=some 68) (v:=undef) (a':=?_) #[true,true,true,true,true,true,true,true,true,true,true,true,true,true,true,true,true,true,true,true,true,false,false] rfl rfl (any_of HT_.out (by kernel_rfl)) (fun _ _ _ h=>h) (Or.inr ⟨by rfl,rfl⟩) ?_ ?_
                    rotate_left
                    ·simp only [Act.put,aA,aB,aC,i64_w,i32_w]
                     rfl
                    refine pure_ (i:=21) (N:=some 69) (v:=undef) (a':=?_) #[true,true,true,true,true,true,true,true,true,true,true,true,true,true,true,true,true,true,true,true,true,true,false] rfl rfl (any_of HT_.out (by kernel_rfl)) (fun _ _ _ h=>h) (Or.inr ⟨by rfl,rfl⟩) ?_ ?_
                    rotate_left
                    ·simp only [Act.put,aA,aB,aC,i64_w,i32_w]
                     rfl
                    refine pure_ (i:=22) (N:=some 70) (v:=?_) (a':=?_) #[true,true,true,true,true,true,true,true,true,true,true,true,true,true,true,true,true,true,true,true,true,true,true] rfl rfl (any_of HT_.out (by kernel_rfl)) (fun _ _ _ h=>h) (Or.inl ⟨by rfl,?_⟩) ?_ ?_
                    rotate_left
                    ·intro w'
                     go_simp
                     with_reducible rfl
                    rotate_left
                    ·simp only [Act.put,aA,aB,aC,i64_w,i32_w]
                     rfl
                    refine done_ (done_of HT_.out (by kernel_rfl)) ?_
                    try go_wp2
                    go_roundg k3
                    case measure=>have:=HK1.out;have:=HK2.out;have:=HK3.out;omega
                    case rel=>exact ⟨(x8_2),(x9_3),(wrap64 (x44_2+1)),(by first|rfl|(simp;done)|(simp [*];done)),(by first|rfl|(simp;done)|(simp [*];done)),H',⟨by have:=HK1.out;have:=HK2.out;have:=HK3.out;omega⟩,⟨by (with_reducible repeat (first|apply Kd.Qe|apply Kd.Qd|apply Kd.R_drew));exact HO_9.out⟩,⟨by repeat (first|(with_reducible first|exact HB.out|apply Qc|apply Qa|apply Qb)|exact HB.out)⟩⟩
                  ·rw [if_neg c28] at H;have c28b0:decide (0<x14_3)=false:=decide_eq_false c28;clear c28;have H':=aM H;clear H
                   try go_wp2
                   have n0_:=aM (Kd.R_drew HO_9.out);have n1_:=aM (Qb HB.out);clear HO_9;clear HB;have HO_9:=n0_;have HB:=n1_;clear n0_ n1_;have p107:0≤(x13_3:Int):=of_decide_eq_true (by first|(with_reducible assumption)|assumption);have q107:x13_3<(l0.length:Int):=of_decide_eq_true (by first|(with_reducible assumption)|assumption);obtain ⟨ad107,e107,hx107_0⟩:=Kd.at_int HR0.out x13_3 p107 q107;have hw107_0:=hx107_0
                   cases e107
                   replace hx107_0:=(HB.out.cell (aI w _ hx107_0)).trans hx107_0;replace p107:=eq_true p107;replace q107:=eq_true q107;have p108:0≤(x13_3:Int):=of_decide_eq_true (by first|(with_reducible assumption)|assumption);have q108:x13_3<(l0.length:Int):=of_decide_eq_true (by first|(with_reducible assumption)|assumption);obtain ⟨ad108,e108,hx108_0⟩:=Kd.at_int HR0.out x13_3 p108 q108;have hw108_0:=hx108_0;obtain rfl:ad107=ad108:=(by injection e108);replace hx108_0:=(HB.out.cell (aI w _ hx108_0)).trans hx108_0;replace p108:=eq_true p108;replace q108:=eq_true q108;have p109:0≤(x13_3:Int):=of_decide_eq_true (by first|(with_reducible assumption)|assumption);have q109:x13_3<(l1.length:Int):=of_decide_eq_true (by first|(with_reducible assumption)|assumption);obtain ⟨ad109,e109,hx109_0⟩:=Kd.at_int HR1.out x13_3 p109 q109;have hw109_0:=hx109_0
                   cases e109
                   replace hx109_0:=(HB.out.cell (aI w _ hx109_0)).trans hx109_0;replace p109:=eq_true p109;replace q109:=eq_true q109;refine start_ (n:=23) (S:=fun w'=>w'.cell? (ad107.add (x13_3).toNat)=some (.int .i64 (rd l0 x13_3))∧w'.cell? (ad107.add (x13_3).toNat)=some (.int .i64 (rd l0 x13_3))∧w'.cell? (ad109.add (x13_3).toNat)=some (.int .i64 (rd l1 x13_3))) (ds:=[]) #[false,false,false,false,false,false,false,false,false,false,false,false,false,false,false,false,false,false,false,false,false,false,false] (by kernel_rfl) rfl rfl ⟨((HB.out.cell (aI w _ hw107_0)).trans hw107_0),((HB.out.cell (aI w _ hw108_0)).trans hw108_0),((HB.out.cell (aI w _ hw109_0)).trans hw109_0)⟩ (fun hHeld=>?_);refine with_tabW impl_RingsOf.tab14 impl_RingsOf.bits14 (fun HT_ HW_=>?_)
                   generalize wr.drew=w32 at HO_9 HB hx107_0 hx108_0 hx109_0 hHeld ⊢
                   refine pure_ (i:=0) (N:=some 48) (v:=?_) (a':=?_) #[true,false,false,false,false,false,false,false,false,false,false,false,false,false,false,false,false,false,false,false,false,false,false] rfl rfl (any_of HT_.out (by kernel_rfl)) (fun _ _ _ h=>h) (Or.inl ⟨by rfl,?_⟩) ?_ ?_
                   rotate_left
                   ·intro w'
                    go_simp
                    with_reducible rfl
                   rotate_left
                   ·simp only [Act.put,aA,aB,aC,i64_w,i32_w]
                    rfl
                   refine pure_ (i:=1) (N:=some 49) (v:=?_) (a':=?_) #[true,true,false,false,false,false,false,false,false,false,false,false,false,false,false,false,false,false,false,false,false,false,false] rfl rfl (any_of HT_.out (by kernel_rfl)) (fun _ _ _ h=>h) (Or.inl ⟨by rfl,?_⟩) ?_ ?_
                   rotate_left
                   ·intro w'
                    go_simp
                    with_reducible rfl
                   rotate_left
                   ·simp only [Act.put,aA,aB,aC,i64_w,i32_w]
                    rfl
                   refine pure_ (i:=2) (N:=some 50) (v:=?_) (a':=?_) #[true,true,true,false,false,false,false,false,false,false,false,false,false,false,false,false,false,false,false,false,false,false,false] rfl rfl (any_of HT_.out (by kernel_rfl)) (fun _ _ _ h=>h) (Or.inl ⟨by rfl,?_⟩) ?_ ?_
                   rotate_left
                   ·intro w'
                    go_simp
                    with_reducible rfl
                   rotate_left
                   ·simp only [Act.put,aA,aB,aC,i64_w,i32_w]
                    rfl
                   refine take_ (i:=3) (N:=some 51) (v:=?_) (a':=?_) #[true,true,true,true,false,false,false,false,false,false,false,false,false,false,false,false,false,false,false,false,false,false,false] rfl rfl (take_ofW HT_.out HW_.out (by kernel_rfl)) (fun _ _ _ h=>h) (Or.inl ⟨by rfl,?_⟩) hHeld ?_ ?_
                   rotate_left
                   ·rintro w' ⟨s0,s1,s2⟩
                    go_simp
                    with_reducible rfl
                   rotate_left
                   ·simp only [Act.put,aA,aB,aC,i64_w,i32_w]
                    rfl
                   refine pure_ (i:=4) (N:=some 52) (v:=?_) (a':=?_) #[true,true,true,true,true,false,false,false,false,false,false,false,false,false,false,false,false,false,false,false,false,false,false] rfl rfl (any_of HT_.out (by kernel_rfl)) (fun _ _ _ h=>h) (Or.inl ⟨by rfl,?_⟩) ?_ ?_
                   rotate_left
                   ·intro w'
                    go_simp
                    with_reducible rfl
                   rotate_left
                   ·simp only [Act.put,aA,aB,aC,i64_w,i32_w]
                    rfl
                   refine pure_ (i:=5) (N:=some 53) (v:=?_) (a':=?_) #[true,true,true,true,true,true,false,false,false,false,false,false,false,false,false,false,false,false,false,false,false,false,false] rfl rfl (any_of HT_.out (by kernel_rfl)) (fun _ _ _ h=>h) (Or.inl ⟨by rfl,?_⟩) ?_ ?_
                   rotate_left
                   ·intro w'
                    go_simp
                    with_reducible rfl
                   rotate_left
                   ·simp only [Act.put,aA,aB,aC,i64_w,i32_w]
                    rfl
                   refine pure_ (i:=6) (N:=some 54) (v:=?_) (a':=?_) #[true,true,true,true,true,true,true,false,false,false,false,false,false,false,false,false,false,false,false,false,false,false,false] rfl rfl (any_of HT_.out (by kernel_rfl)) (fun _ _ _ h=>h) (Or.inl ⟨by rfl,?_⟩) ?_ ?_
                   rotate_left
                   ·intro w'
                    go_simp
                    with_reducible rfl
                   rotate_left
                   ·simp only [Act.put,aA,aB,aC,i64_w,i32_w]
                    rfl
                   refine pure_ (i:=7) (N:=some 55) (v:=?_) (a':=?_) #[true,true,true,true,true,true,true,true,false,false,false,false,false,false,false,false,false,false,false,false,false,false,false] rfl rfl (any_of HT_.out (by kernel_rfl)) (fun _ _ _ h=>h) (Or.inl ⟨by rfl,?_⟩) ?_ ?_
                   rotate_left
                   ·intro w'
                    go_simp
                    with_reducible rfl
                   rotate_left
                   ·simp only [Act.put,aA,aB,aC,i64_w,i32_w]
                    rfl
                   refine pure_ (i:=8) (N:=some 56) (v:=?_) (a':=?_) #[true,true,true,true,true,true,true,true,true,false,false,false,false,false,false,false,false,false,false,false,false,false,false] rfl rfl (any_of HT_.out (by kernel_rfl)) (fun _ _ _ h=>h) (Or.inl ⟨by rfl,?_⟩) ?_ ?_
                   rotate_left
                   ·intro w'
                    go_simp
                    with_reducible rfl
                   rotate_left
                   ·simp only [Act.put,aA,aB,aC,i64_w,i32_w]
                    rfl
                   refine pure_ (i:=10) (N:=some 58) (v:=?_) (a':=?_) #[true,true,true,true,true,true,true,true,true,false,true,false,false,false,false,false,false,false,false,false,false,false,false] rfl rfl (any_of HT_.out (by kernel_rfl)) (fun _ _ _ h=>h) (Or.inl ⟨by rfl,?_⟩) ?_ ?_
                   rotate_left
                   ·intro w'
                    go_simp
                    with_reducible rfl
                   rotate_left
                   ·simp only [Act.put,aA,aB,aC,i64_w,i32_w]
                    rfl
                   refine pure_ (i:=11) (N:=some 59) (v:=?_) (a':=?_) #[true,true,true,true,true,true,true,true,true,false,true,true,false,false,false,false,false,false,false,false,false,false,false] rfl rfl (any_of HT_.out (by kernel_rfl)) (fun _ _ _ h=>h) (Or.inl ⟨by rfl,?_⟩) ?_ ?_
                   rotate_left
                   ·intro w'
                    go_simp
                    with_reducible rfl
                   rotate_left
                   ·simp only [Act.put,aA,aB,aC,i64_w,i32_w]
                    rfl
                   refine pure_ (i:=12) (N:=some 60) (v:=?_) (a':=?_) #[true,true,true,true,true,true,true,true,true,false,true,true,true,false,false,false,false,false,false,false,false,false,false] rfl rfl (any_of HT_.out (by kernel_rfl)) (fun _ _ _ h=>h) (Or.inl ⟨by rfl,?_⟩) ?_ ?_
                   rotate_left
                   ·intro w'
                    go_simp
                    with_reducible rfl
                   rotate_left
                   ·simp only [Act.put,aA,aB,aC,i64_w,i32_w]
                    rfl
                   refine take_ (i:=9) (N:=some 57) (v:=?_) (a':=?_) #[true,true,true,true,true,true,true,true,true,true,true,true,true,false,false,false,false,false,false,false,false,false,false] rfl rfl (take_ofW HT_.out HW_.out (by kernel_rfl)) (fun _ _ _ h=>h) (Or.inl ⟨by rfl,?_⟩) hHeld ?_ ?_
                   rotate_left
                   ·rintro w' ⟨s0,s1,s2⟩
                    go_simp
                    with_reducible rfl
                   rotate_left
                   ·simp only [Act.put,aA,aB,aC,i64_w,i32_w]
                    rfl
                   refine take_ (i:=13) (N:=some 61) (v:=?_) (a':=?_) #[true,true,true,true,true,true,true,true,true,true,true,true,true,true,false,false,false,false,false,false,false,false,false] rfl rfl (take_ofW HT_.out HW_.out (by kernel_rfl)) (fun _ _ _ h=>h) (Or.inl ⟨by rfl,?_⟩) hHeld ?_ ?_
                   rotate_left
                   ·rintro w' ⟨s0,s1,s2⟩
                    go_simp
                    with_reducible rfl
                   rotate_left
                   ·simp only [Act.put,aA,aB,aC,i64_w,i32_w]
                    rfl
                   refine pure_ (i:=14) (N:=some 62) (v:=?_) (a':=?_) #[true,true,true,true,true,true,true,true,true,true,true,true,true,true,true,false,false,false,false,false,false,false,false] rfl rfl (any_of HT_.out (by kernel_rfl)) (fun _ _ _ h=>h) (Or.inl ⟨by rfl,?_⟩) ?_ ?_
                   rotate_left
                   ·intro w'
                    go_simp
                    with_reducible rfl
                   rotate_left
                   ·simp only [Act.put,aA,aB,aC,i64_w,i32_w]
                    rfl
                   refine pure_ (i:=15) (N:=some 63) (v:=?_) (a':=?_) #[true,true,true,true,true,true,true,true,true,true,true,true,true,true,true,true,false,false,false,false,false,false,false] rfl rfl (any_of HT_.out (by kernel_rfl)) (fun _ _ _ h=>h) (Or.inl ⟨by rfl,?_⟩) ?_ ?_
                   rotate_left
                   ·intro w'
                    go_simp
                    with_reducible rfl
                   rotate_left
                   ·simp only [Act.put,aA,aB,aC,i64_w,i32_w]
                    rfl
                   refine pure_ (i:=16) (N:=some 64) (v:=?_) (a':=?_) #[true,true,true,true,true,true,true,true,true,true,true,true,true,true,true,true,true,false,false,false,false,false,false] rfl rfl (any_of HT_.out (by kernel_rfl)) (fun _ _ _ h=>h) (Or.inl ⟨by rfl,?_⟩) ?_ ?_
                   rotate_left
                   ·intro w'
                    go_simp
                    with_reducible rfl
                   rotate_left
                   ·simp only [Act.put,aA,aB,aC,i64_w,i32_w]
                    rfl
                   refine pure_ (i:=17) (N:=some 65) (v:=undef) (a':=?_) #[true,true,true,true,true,true,true,true,true,true,true,true,true,true,true,true,true,true,false,false,false,false,false] rfl rfl (any_of HT_.out (by kernel_rfl)) (fun _ _ _ h=>h) (Or.inr ⟨by rfl,rfl⟩) ?_ ?_
                   rotate_left
                   ·simp only [Act.put,aA,aB,aC,i64_w,i32_w]
                    rfl
                   refine pure_ (i:=18) (N:=some 66) (v:=undef) (a':=?_) #[true,true,true,true,true,true,true,true,true,true,true,true,true,true,true,true,true,true,true,false,false,false,false] rfl rfl (any_of HT_.out (by kernel_rfl)) (fun _ _ _ h=>h) (Or.inr ⟨by rfl,rfl⟩) ?_ ?_
                   rotate_left
                   ·simp only [Act.put,aA,aB,aC,i64_w,i32_w]
                    rfl
                   refine pure_ (i:=19) (N:=some 67) (v:=undef) (a':=?_) #[true,true,true,true,true,true,true,true,true,true,true,true,true,true,true,true,true,true,true,true,false,false,false] rfl rfl (any_of HT_.out (by kernel_rfl)) (fun _ _ _ h=>h) (Or.inr ⟨by rfl,rfl⟩) ?_ ?_
                   rotate_left
                   ·simp only [Act.put,aA,aB,aC,i64_w,i32_w]
                    rfl
                   refine pure_ (i:=20) (N:=some 68) (v:=undef) (a':=?_) #[true,true,true,true,true,true,true,true,true,true,true,true,true,true,true,true,true,true,true,true,true,false,false] rfl rfl (any_of HT_.out (by kernel_rfl)) (fun _ _ _ h=>h) (Or.inr ⟨by rfl,rfl⟩) ?_ ?_
                   rotate_left
                   ·simp only [Act.put,aA,aB,aC,i64_w,i32_w]
                    rfl
                   refine pure_ (i:=21) (N:=some 69) (v:=undef) (a':=?_) #[true,true,true,true,true,true,true,true,true,true,true,true,true,true,true,true,true,true,true,true,true,true,false] rfl rfl (any_of HT_.out (by kernel_rfl)) (fun _ _ _ h=>h) (Or.inr ⟨by rfl,rfl⟩) ?_ ?_
                   rotate_left
                   ·simp only [Act.put,aA,aB,aC,i64_w,i32_w]
                    rfl
                   refine pure_ (i:=22) (N:=some 70) (v:=?_) (a':=?_) #[true,true,true,true,true,true,true,true,true,true,true,true,true,true,true,true,true,true,true,true,true,true,true] rfl rfl (any_of HT_.out (by kernel_rfl)) (fun _ _ _ h=>h) (Or.inl ⟨by rfl,?_⟩) ?_ ?_
                   rotate_left
                   ·intro w'
                    go_simp
                    with_reducible rfl
                   rotate_left
                   ·simp only [Act.put,aA,aB,aC,i64_w,i32_w]
                    rfl
                   refine done_ (done_of HT_.out (by kernel_rfl)) ?_
                   try go_wp2
                   go_roundg k3
                   case measure=>have:=HK1.out;have:=HK2.out;have:=HK3.out;omega
                   case rel=>exact ⟨(x8_2),(x9_3),(wrap64 (x44_2+1)),(by first|rfl|(simp;done)|(simp [*];done)),(by first|rfl|(simp;done)|(simp [*];done)),H',⟨by have:=HK1.out;have:=HK2.out;have:=HK3.out;omega⟩,⟨by (with_reducible repeat (first|apply Kd.Qe|apply Kd.Qd|apply Kd.R_drew));exact HO_9.out⟩,⟨by repeat (first|(with_reducible first|exact HB.out|apply Qc|apply Qa|apply Qb)|exact HB.out)⟩⟩
                 ·rw [if_neg c27] at H;have c27b0:((rd l0 x13_3) == (rd l1 x13_3))=false:=beq_eq_false_iff_ne.mpr c27;have c27b1:((rd l0 x13_3) != (rd l1 x13_3))=true:=bne_iff_ne.mpr c27;by_cases c33:x13_3<(x9_3.length:Int)
                  ·rw [if_pos c33] at H;have c33b0:decide (x13_3<(x9_3.length:Int))=true:=decide_eq_true c33;clear c33;obtain ⟨bq34,hbq34⟩:∃ b_:Bool,b_=(rdOf false x9_3 x13_3):=⟨_,rfl⟩;replace H:(if bq34=true then (if x14_3 > 0 then (if x13_3=x44_2 then (impl_RingsOf.l1 k3 l0 l1 x7_1 (wrap64 (x8_2+1)) x9_3 (l0.length:Int) (wrap64 (x44_2+1))) else (impl_RingsOf.l1 k3 l0 l1 x7_1 x8_2 x9_3 (l0.length:Int) (wrap64 (x44_2+1)))) else (impl_RingsOf.l1 k3 l0 l1 x7_1 x8_2 x9_3 (l0.length:Int) (wrap64 (x44_2+1)))) else ((slices_Index_int_int.f k3 l1 (rd l0 x13_3)).bind fun t113=>(impl_RingsOf.l2 k3 l0 l1 x7_1 x8_2 (x9_3.set (x13_3:Int).toNat true) x44_2 t113 (wrap64 (x14_3+1)) (l0.length:Int) x44_2)))=some (r1,r2,r3):=by rw [←hbq34] at H;exact H
                   have Nbq34:=aM hbq34;clear hbq34;by_cases c35:bq34=true
                   ·subst c35;have H1:(if x14_3 > 0 then (if x13_3=x44_2 then (impl_RingsOf.l1 k3 l0 l1 x7_1 (wrap64 (x8_2+1)) x9_3 (l0.length:Int) (wrap64 (x44_2+1))) else (impl_RingsOf.l1 k3 l0 l1 x7_1 x8_2 x9_3 (l0.length:Int) (wrap64 (x44_2+1)))) else (impl_RingsOf.l1 k3 l0 l1 x7_1 x8_2 x9_3 (l0.length:Int) (wrap64 (x44_2+1))))=some (r1,r2,r3):=by rw [if_pos rfl] at H;exact H
                    clear H;have H:=H1;clear H1;by_cases c36:x14_3 > 0
                    ·rw [if_pos c36] at H;have c36b0:decide (0<x14_3)=true:=decide_eq_true c36;clear c36;by_cases c37:x13_3=x44_2
                     ·rw [if_pos c37] at H;have c37b0:(x13_3 == x44_2)=true:=beq_iff_eq.mpr c37;have c37b1:(x13_3 != x44_2)=false:=bne_eq_false_iff_eq.mpr c37;clear c37;have H':=aM H;clear H
                      try go_wp2
                      have n0_:=aM (Kd.R_drew HO_9.out);have n1_:=aM (Qb HB.out);clear HO_9;clear HB;have HO_9:=n0_;have HB:=n1_;clear n0_ n1_;have p107:0≤(x13_3:Int):=of_decide_eq_true (by first|(with_reducible assumption)|assumption);have q107:x13_3<(l0.length:Int):=of_decide_eq_true (by first|(with_reducible assumption)|assumption);obtain ⟨ad107,e107,hx107_0⟩:=Kd.at_int HR0.out x13_3 p107 q107;have hw107_0:=hx107_0
                      cases e107
                      replace hx107_0:=(HB.out.cell (aI w _ hx107_0)).trans hx107_0;replace p107:=eq_true p107;replace q107:=eq_true q107;have p108:0≤(x13_3:Int):=of_decide_eq_true (by first|(with_reducible assumption)|assumption);have q108:x13_3<(l0.length:Int):=of_decide_eq_true (by first|(with_reducible assumption)|assumption);obtain ⟨ad108,e108,hx108_0⟩:=Kd.at_int HR0.out x13_3 p108 q108;have hw108_0:=hx108_0;obtain rfl:ad107=ad108:=(by injection e108);replace hx108_0:=(HB.out.cell (aI w _ hx108_0)).trans hx108_0;replace p108:=eq_true p108;replace q108:=eq_true q108;have p109:0≤(x13_3:Int):=of_decide_eq_true (by first|(with_reducible assumption)|assumption);have q109:x13_3<(l1.length:Int):=of_decide_eq_true (by first|(with_reducible assumption)|assumption);obtain ⟨ad109,e109,hx109_0⟩:=Kd.at_int HR1.out x13_3 p109 q109;have hw109_0:=hx109_0
                      cases e109
                      replace hx109_0:=(HB.out.cell (aI w _ hx109_0)).trans hx109_0;replace p109:=eq_true p109;replace q109:=eq_true q109;obtain ⟨Ao39,co39,eo39⟩:=Kd.R_slice HO_9.out
                      (first|subst eo39|(injection eo39 with f1_ f2_ f3_;have f4_:=f1_.symm;have f5_:=f3_.symm;clear f1_ f2_ f3_;subst f4_;subst f5_))
                      have p110:0≤(x13_3:Int):=of_decide_eq_true (by first|(with_reducible assumption)|assumption);have q110:x13_3<(x9_3.length:Int):=of_decide_eq_true (by first|(with_reducible assumption)|assumption);obtain ⟨ad110,e110,hx110_0⟩:=Kd.at_bool (Kd.Qf HO_9.out).2.2 x13_3 p110 q110;(try rw [←Nbq34.out] at hx110_0)
                      cases e110
                      replace p110:=eq_true p110;replace q110:=eq_true q110;refine start_ (n:=23) (S:=fun w'=>w'.cell? (ad107.add (x13_3).toNat)=some (.int .i64 (rd l0 x13_3))∧w'.cell? (ad107.add (x13_3).toNat)=some (.int .i64 (rd l0 x13_3))∧w'.cell? (ad109.add (x13_3).toNat)=some (.int .i64 (rd l1 x13_3))∧w'.cell? (ad110.add (x13_3).toNat)=some (.bool true)) (ds:=[]) #[false,false,false,false,false,false,false,false,false,false,false,false,false,false,false,false,false,false,false,false,false,false,false] (by kernel_rfl) rfl rfl ⟨((HB.out.cell (aI w _ hw107_0)).trans hw107_0),((HB.out.cell (aI w _ hw108_0)).trans hw108_0),((HB.out.cell (aI w _ hw109_0)).trans hw109_0),hx110_0⟩ (fun hHeld=>?_);refine with_tabW impl_RingsOf.tab14 impl_RingsOf.bits14 (fun HT_ HW_=>?_)
                      generalize wr.drew=w38 at HO_9 HB hx107_0 hx108_0 hx109_0 hx110_0 hHeld ⊢
                      refine pure_ (i:=0) (N:=some 48) (v:=?_) (a':=?_) #[true,false,false,false,false,false,false,false,false,false,false,false,false,false,false,false,false,false,false,false,false,false,false] rfl rfl (any_of HT_.out (by kernel_rfl)) (fun _ _ _ h=>h) (Or.inl ⟨by rfl,?_⟩) ?_ ?_
                      rotate_left
                      ·intro w'
                       go_simp
                       with_reducible rfl
                      rotate_left
                      ·simp only [Act.put,aA,aB,aC,i64_w,i32_w]
                       rfl
                      refine pure_ (i:=1) (N:=some 49) (v:=?_) (a':=?_) #[true,true,false,false,false,false,false,false,false,false,false,false,false,false,false,false,false,false,false,false,false,false,false] rfl rfl (any_of HT_.out (by kernel_rfl)) (fun _ _ _ h=>h) (Or.inl ⟨by rfl,?_⟩) ?_ ?_
                      rotate_left
                      ·intro w'
                       go_simp
                       with_reducible rfl
                      rotate_left
                      ·simp only [Act.put,aA,aB,aC,i64_w,i32_w]
                       rfl
                      refine pure_ (i:=2) (N:=some 50) (v:=?_) (a':=?_) #[true,true,true,false,false,false,false,false,false,false,false,false,false,false,false,false,false,false,false,false,false,false,false] rfl rfl (any_of HT_.out (by kernel_rfl)) (fun _ _ _ h=>h) (Or.inl ⟨by rfl,?_⟩) ?_ ?_
                      rotate_left
                      ·intro w'
                       go_simp
                       with_reducible rfl
                      rotate_left
                      ·simp only [Act.put,aA,aB,aC,i64_w,i32_w]
                       rfl
                      refine take_ (i:=3) (N:=some 51) (v:=?_) (a':=?_) #[true,true,true,true,false,false,false,false,false,false,false,false,false,false,false,false,false,false,false,false,false,false,false] rfl rfl (take_ofW HT_.out HW_.out (by kernel_rfl)) (fun _ _ _ h=>h) (Or.inl ⟨by rfl,?_⟩) hHeld ?_ ?_
                      rotate_left
                      ·rintro w' ⟨s0,s1,s2,s3⟩
                       go_simp
                       with_reducible rfl
                      rotate_left
                      ·simp only [Act.put,aA,aB,aC,i64_w,i32_w]
                       rfl
                      refine pure_ (i:=4) (N:=some 52) (v:=?_) (a':=?_) #[true,true,true,true,true,false,false,false,false,false,false,false,false,false,false,false,false,false,false,false,false,false,false] rfl rfl (any_of HT_.out (by kernel_rfl)) (fun _ _ _ h=>h) (Or.inl ⟨by rfl,?_⟩) ?_ ?_
                      rotate_left
                      ·intro w'
                       go_simp
                       with_reducible rfl
                      rotate_left
                      ·simp only [Act.put,aA,aB,aC,i64_w,i32_w]
                       rfl
                      refine pure_ (i:=5) (N:=some 53) (v:=?_) (a':=?_) #[true,true,true,true,true,true,false,false,false,false,false,false,false,false,false,false,false,false,false,false,false,false,false] rfl rfl (any_of HT_.out (by kernel_rfl)) (fun _ _ _ h=>h) (Or.inl ⟨by rfl,?_⟩) ?_ ?_
                      rotate_left
                      ·intro w'
                       go_simp
                       with_reducible rfl
                      rotate_left
                      ·simp only [Act.put,aA,aB,aC,i64_w,i32_w]
                       rfl
                      refine pure_ (i:=6) (N:=some 54) (v:=?_) (a':=?_) #[true,true,true,true,true,true,true,false,false,false,false,false,false,false,false,false,false,false,false,false,false,false,false] rfl rfl (any_of HT_.out (by kernel_rfl)) (fun _ _ _ h=>h) (Or.inl ⟨by rfl,?_⟩) ?_ ?_
                      rotate_left
                      ·intro w'
                       go_simp
                       with_reducible rfl
                      rotate_left
                      ·simp only [Act.put,aA,aB,aC,i64_w,i32_w]
                       rfl
                      refine pure_ (i:=7) (N:=some 55) (v:=?_) (a':=?_) #[true,true,true,true,true,true,true,true,false,false,false,false,false,false,false,false,false,false,false,false,false,false,false] rfl rfl (any_of HT_.out (by kernel_rfl)) (fun _ _ _ h=>h) (Or.inl ⟨by rfl,?_⟩) ?_ ?_
                      rotate_left
                      ·intro w'
                       go_simp
                       with_reducible rfl
                      rotate_left
                      ·simp only [Act.put,aA,aB,aC,i64_w,i32_w]
                       rfl
                      refine pure_ (i:=8) (N:=some 56) (v:=?_) (a':=?_) #[true,true,true,true,true,true,true,true,true,false,false,false,false,false,false,false,false,false,false,false,false,false,false] rfl rfl (any_of HT_.out (by kernel_rfl)) (fun _ _ _ h=>h) (Or.inl ⟨by rfl,?_⟩) ?_ ?_
                      rotate_left
                      ·intro w'
                       go_simp
                       with_reducible rfl
                      rotate_left
                      ·simp only [Act.put,aA,aB,aC,i64_w,i32_w]
                       rfl
                      refine pure_ (i:=10) (N:=some 58) (v:=?_) (a':=?_) #[true,true,true,true,true,true,true,true,true,false,true,false,false,false,false,false,false,false,false,false,false,false,false] rfl rfl (any_of HT_.out (by kernel_rfl)) (fun _ _ _ h=>h) (Or.inl ⟨by rfl,?_⟩) ?_ ?_
                      rotate_left
                      ·intro w'
                       go_simp
                       with_reducible rfl
                      rotate_left
                      ·simp only [Act.put,aA,aB,aC,i64_w,i32_w]
                       rfl
                      refine pure_ (i:=11) (N:=some 59) (v:=?_) (a':=?_) #[true,true,true,true,true,true,true,true,true,false,true,true,false,false,false,false,false,false,false,false,false,false,false] rfl rfl (any_of HT_.out (by kernel_rfl)) (fun _ _ _ h=>h) (Or.inl ⟨by rfl,?_⟩) ?_ ?_
                      rotate_left
                      ·intro w'
                       go_simp
                       with_reducible rfl
                      rotate_left
                      ·simp only [Act.put,aA,aB,aC,i64_w,i32_w]
                       rfl
                      refine pure_ (i:=12) (N:=some 60) (v:=?_) (a':=?_) #[true,true,true,true,true,true,true,true,true,false,true,true,true,false,false,false,false,false,false,false,false,false,false] rfl rfl (any_of HT_.out (by kernel_rfl)) (fun _ _ _ h=>h) (Or.inl ⟨by rfl,?_⟩) ?_ ?_
                      rotate_left
                      ·intro w'
                       go_simp
                       with_reducible rfl
                      rotate_left
                      ·simp only [Act.put,aA,aB,aC,i64_w,i32_w]
                       rfl
                      refine take_ (i:=9) (N:=some 57) (v:=?_) (a':=?_) #[true,true,true,true,true,true,true,true,true,true,true,true,true,false,false,false,false,false,false,false,false,false,false] rfl rfl (take_ofW HT_.out HW_.out (by kernel_rfl)) (fun _ _ _ h=>h) (Or.inl ⟨by rfl,?_⟩) hHeld ?_ ?_
                      rotate_left
                      ·rintro w' ⟨s0,s1,s2,s3⟩
                       go_simp
                       with_reducible rfl
                      rotate_left
                      ·simp only [Act.put,aA,aB,aC,i64_w,i32_w]
                       rfl
                      refine take_ (i:=13) (N:=some 61) (v:=?_) (a':=?_) #[true,true,true,true,true,true,true,true,true,true,true,true,true,true,false,false,false,false,false,false,false,false,false] rfl rfl (take_ofW HT_.out HW_.out (by kernel_rfl)) (fun _ _ _ h=>h) (Or.inl ⟨by rfl,?_⟩) hHeld ?_ ?_
                      rotate_left
                      ·rintro w' ⟨s0,s1,s2,s3⟩
                       go_simp
                       with_reducible rfl
                      rotate_left
                      ·simp only [Act.put,aA,aB,aC,i64_w,i32_w]
                       rfl
                      refine pure_ (i:=14) (N:=some 62) (v:=?_) (a':=?_) #[true,true,true,true,true,true,true,true,true,true,true,true,true,true,true,false,false,false,false,false,false,false,false] rfl rfl (any_of HT_.out (by kernel_rfl)) (fun _ _ _ h=>h) (Or.inl ⟨by rfl,?_⟩) ?_ ?_
                      rotate_left
                      ·intro w'
                       go_simp
                       with_reducible rfl
                      rotate_left
                      ·simp only [Act.put,aA,aB,aC,i64_w,i32_w]
                       rfl
                      refine pure_ (i:=15) (N:=some 63) (v:=?_) (a':=?_) #[true,true,true,true,true,true,true,true,true,true,true,true,true,true,true,true,false,false,false,false,false,false,false] rfl rfl (any_of HT_.out (by kernel_rfl)) (fun _ _ _ h=>h) (Or.inl ⟨by rfl,?_⟩) ?_ ?_
                      rotate_left
                      ·intro w'
                       go_simp
                       with_reducible rfl
                      rotate_left
                      ·simp only [Act.put,aA,aB,aC,i64_w,i32_w]
                       rfl
                      refine pure_ (i:=16) (N:=some 64) (v:=?_) (a':=?_) #[true,true,true,true,true,true,true,true,true,true,true,true,true,true,true,true,true,false,false,false,false,false,false] rfl rfl (any_of HT_.out (by kernel_rfl)) (fun _ _ _ h=>h) (Or.inl ⟨by rfl,?_⟩) ?_ ?_
                      rotate_left
                      ·intro w'
                       go_simp
                       with_reducible rfl
                      rotate_left
                      ·simp only [Act.put,aA,aB,aC,i64_w,i32_w]
                       rfl
                      refine pure_ (i:=17) (N:=some 65) (v:=?_) (a':=?_) #[true,true,true,true,true,true,true,true,true,true,true,true,true,true,true,true,true,true,false,false,false,false,false] rfl rfl (any_of HT_.out (by kernel_rfl)) (fun _ _ _ h=>h) (Or.inl ⟨by rfl,?_⟩) ?_ ?_
                      rotate_left
                      ·intro w'
                       go_simp
                       with_reducible rfl
                      rotate_left
                      ·simp only [Act.put,aA,aB,aC,i64_w,i32_w]
                       rfl
                      refine pure_ (i:=18) (N:=some 66) (v:=?_) (a':=?_) #[true,true,true,true,true,true,true,true,true,true,true,true,true,true,true,true,true,true,true,false,false,false,false] rfl rfl (any_of HT_.out (by kernel_rfl)) (fun _ _ _ h=>h) (Or.inl ⟨by rfl,?_⟩) ?_ ?_
                      rotate_left
                      ·intro w'
                       go_simp
                       with_reducible rfl
                      rotate_left
                      ·simp only [Act.put,aA,aB,aC,i64_w,i32_w]
                       rfl
                      refine pure_ (i:=19) (N:=some 67) (v:=?_) (a':=?_) #[true,true,true,true,true,true,true,true,true,true,true,true,true,true,true,true,true,true,true,true,false,false,false] rfl rfl (any_of HT_.out (by kernel_rfl)) (fun _ _ _ h=>h) (Or.inl ⟨by rfl,?_⟩) ?_ ?_
                      rotate_left
                      ·intro w'
                       go_simp
                       with_reducible rfl
                      rotate_left
                      ·simp only [Act.put,aA,aB,aC,i64_w,i32_w]
                       rfl
                      refine take_ (i:=20) (N:=some 68) (v:=?_) (a':=?_) #[true,true,true,true,true,true,true,true,true,true,true,true,true,true,true,true,true,true,true,true,true,false,false] rfl rfl (take_ofW HT_.out HW_.out (by kernel_rfl)) (fun _ _ _ h=>h) (Or.inl ⟨by rfl,?_⟩) hHeld ?_ ?_
                      rotate_left
                      ·rintro w' ⟨s0,s1,s2,s3⟩
                       go_simp
                       with_reducible rfl
                      rotate_left
                      ·simp only [Act.put,aA,aB,aC,i64_w,i32_w]
                       rfl
                      refine pure_ (i:=21) (N:=some 69) (v:=?_) (a':=?_) #[true,true,true,true,true,true,true,true,true,true,true,true,true,true,true,true,true,true,true,true,true,true,false] rfl rfl (any_of HT_.out (by kernel_rfl)) (fun _ _ _ h=>h) (Or.inl ⟨by rfl,?_⟩) ?_ ?_
                      rotate_left
                      ·intro w'
                       go_simp
                       with_reducible rfl
                      rotate_left
                      ·simp only [Act.put,aA,aB,aC,i64_w,i32_w]
                       rfl
                      refine pure_ (i:=22) (N:=some 70) (v:=?_) (a':=?_) #[true,true,true,true,true,true,true,true,true,true,true,true,true,true,true,true,true,true,true,true,true,true,true] rfl rfl (any_of HT_.out (by kernel_rfl)) (fun _ _ _ h=>h) (Or.inl ⟨by rfl,?_⟩) ?_ ?_
                      rotate_left
                      ·intro w'
                       go_simp
                       with_reducible rfl
                      rotate_left
                      ·simp only [Act.put,aA,aB,aC,i64_w,i32_w]
                       rfl
                      refine done_ (done_of HT_.out (by kernel_rfl)) ?_
                      try go_wp2
                      go_roundg k3
                      case measure=>have:=HK1.out;have:=HK2.out;have:=HK3.out;omega
                      case rel=>exact ⟨(wrap64 (x8_2+1)),(x9_3),(wrap64 (x44_2+1)),(by first|rfl|(simp;done)|(simp [*];done)),(by first|rfl|(simp;done)|(simp [*];done)),H',⟨by have:=HK1.out;have:=HK2.out;have:=HK3.out;omega⟩,⟨by (with_reducible repeat (first|apply Kd.Qe|apply Kd.Qd|apply Kd.R_drew));exact HO_9.out⟩,⟨by repeat (first|(with_reducible first|exact HB.out|apply Qc|apply Qa|apply Qb)|exact HB.out)⟩⟩
                     ·rw [if_neg c37] at H;have c37b0:(x13_3 == x44_2)=false:=beq_eq_false_iff_ne.mpr c37;have c37b1:(x13_3 != x44_2)=true:=bne_iff_ne.mpr c37;have H':=aM H;clear H
                      try go_wp2
                      have n0_:=aM (Kd.R_drew HO_9.out);have n1_:=aM (Qb HB.out);clear HO_9;clear HB;have HO_9:=n0_;have HB:=n1_;clear n0_ n1_;have p107:0≤(x13_3:Int):=of_decide_eq_true (by first|(with_reducible assumption)|assumption);have q107:x13_3<(l0.length:Int):=of_decide_eq_true (by first|(with_reducible assumption)|assumption);obtain ⟨ad107,e107,hx107_0⟩:=Kd.at_int HR0.out x13_3 p107 q107;have hw107_0:=hx107_0
                      cases e107
                      replace hx107_0:=(HB.out.cell (aI w _ hx107_0)).trans hx107_0;replace p107:=eq_true p107;replace q107:=eq_true q107;have p108:0≤(x13_3:Int):=of_decide_eq_true (by first|(with_reducible assumption)|assumption);have q108:x13_3<(l0.length:Int):=of_decide_eq_true (by first|(with_reducible assumption)|assumption);obtain ⟨ad108,e108,hx108_0⟩:=Kd.at_int HR0.out x13_3 p108 q108;have hw108_0:=hx108_0;obtain rfl:ad107=ad108:=(by injection e108);replace hx108_0:=(HB.out.cell (aI w _ hx108_0)).trans hx108_0;replace p108:=eq_true p108;replace q108:=eq_true q108;have p109:0≤(x13_3:Int):=of_decide_eq_true (by first|(with_reducible assumption)|assumption);have q109:x13_3<(l1.length:Int):=of_decide_eq_true (by first|(with_reducible assumption)|assumption);obtain ⟨ad109,e109,hx109_0⟩:=Kd.at_int HR1.out x13_3 p109 q109;have hw109_0:=hx109_0
                      cases e109
                      replace hx109_0:=(HB.out.cell (aI w _ hx109_0)).trans hx109_0;replace p109:=eq_true p109;replace q109:=eq_true q109;obtain ⟨Ao41,co41,eo41⟩:=Kd.R_slice HO_9.out
                      (first|subst eo41|(injection eo41 with f1_ f2_ f3_;have f4_:=f1_.symm;have f5_:=f3_.symm;clear f1_ f2_ f3_;subst f4_;subst f5_))
                      have p110:0≤(x13_3:Int):=of_decide_eq_true (by first|(with_reducible assumption)|assumption);have q110:x13_3<(x9_3.length:Int):=of_decide_eq_true (by first|(with_reducible assumption)|assumption);obtain ⟨ad110,e110,hx110_0⟩:=Kd.at_bool (Kd.Qf HO_9.out).2.2 x13_3 p110 q110;(try rw [←Nbq34.out] at hx110_0)
                      cases e110
                      replace p110:=eq_true p110;replace q110:=eq_true q110;refine start_ (n:=23) (S:=fun w'=>w'.cell? (ad107.add (x13_3).toNat)=some (.int .i64 (rd l0 x13_3))∧w'.cell? (ad107.add (x13_3).toNat)=some (.int .i64 (rd l0 x13_3))∧w'.cell? (ad109.add (x13_3).toNat)=some (.int .i64 (rd l1 x13_3))∧w'.cell? (ad110.add (x13_3).toNat)=some (.bool true)) (ds:=[]) #[false,false,false,false,false,false,false,false,false,false,false,false,false,false,false,false,false,false,false,false,false,false,false] (by kernel_rfl) rfl rfl ⟨((HB.out.cell (aI w _ hw107_0)).trans hw107_0),((HB.out.cell (aI w _ hw108_0)).trans hw108_0),((HB.out.cell (aI w _ hw109_0)).trans hw109_0),hx110_0⟩ (fun hHeld=>?_);refine with_tabW impl_RingsOf.tab14 impl_RingsOf.bits14 (fun HT_ HW_=>?_)
                      generalize wr.drew=w40 at HO_9 HB hx107_0 hx108_0 hx109_0 hx110_0 hHeld ⊢
                      refine pure_ (i:=0) (N:=some 48) (v:=?_) (a':=?_) #[true,false,false,false,false,false,false,false,false,false,false,false,false,false,false,false,false,false,false,false,false,false,false] rfl rfl (any_of HT_.out (by kernel_rfl)) (fun _ _ _ h=>h) (Or.inl ⟨by rfl,?_⟩) ?_ ?_
                      rotate_left
                      ·intro w'
                       go_simp
                       with_reducible rfl
                      rotate_left
                      ·simp only [Act.put,aA,aB,aC,i64_w,i32_w]
                       rfl
                      refine pure_ (i:=1) (N:=some 49) (v:=?_) (a':=?_) #[true,true,false,false,false,false,false,false,false,false,false,false,false,false,false,false,false,false,false,false,false,false,false] rfl rfl (any_of HT_.out (by kernel_rfl)) (fun _ _ _ h=>h) (Or.inl ⟨by rfl,?_⟩) ?_ ?_
                      rotate_left
                      ·intro w'
                       go_simp
                       with_reducible rfl
                      rotate_left
                      ·simp only [Act.put,aA,aB,aC,i64_w,i32_w]
                       rfl
                      refine pure_ (i:=2) (N:=some 50) (v:=?_) (a':=?_) #[true,true,true,false,false,false,false,false,false,false,false,false,false,false,false,false,false,false,false,false,false,false,false] rfl rfl (any_of HT_.out (by kernel_rfl)) (fun _ _ _ h=>h) (Or.inl ⟨by rfl,?_⟩) ?_ ?_
                      rotate_left
                      ·intro w'
                       go_simp
                       with_reducible rfl
                      rotate_left
                      ·simp only [Act.put,aA,aB,aC,i64_w,i32_w]
                       rfl
                      refine take_ (i:=3) (N:=some 51) (v:=?_) (a':=?_) #[true,true,true,true,false,false,false,false,false,false,false,false,false,false,false,false,false,false,false,false,false,false,false] rfl rfl (take_ofW HT_.out HW_.out (by kernel_rfl)) (fun _ _ _ h=>h) (Or.inl ⟨by rfl,?_⟩) hHeld ?_ ?_
                      rotate_left
                      ·rintro w' ⟨s0,s1,s2,s3⟩
                       go_simp
                       with_reducible rfl
                      rotate_left
                      ·simp only [Act.put,aA,aB,aC,i64_w,i32_w]
                       rfl
                      refine pure_ (i:=4) (N:=some 52) (v:=?_) (a':=?_) #[true,true,true,true,true,false,false,false,false,false,false,false,false,false,false,false,false,false,false,false,false,false,false] rfl rfl (any_of HT_.out (by kernel_rfl)) (fun _ _ _ h=>h) (Or.inl ⟨by rfl,?_⟩) ?_ ?_
                      rotate_left
                      ·intro w'
                       go_simp
                       with_reducible rfl
                      rotate_left
                      ·simp only [Act.put,aA,aB,aC,i64_w,i32_w]
                       rfl
                      refine pure_ (i:=5) (N:=some 53) (v:=?_) (a':=?_) #[true,true,true,true,true,true,false,false,false,false,false,false,false,false,false,false,false,false,false,false,false,false,false] rfl rfl (any_of HT_.out (by kernel_rfl)) (fun _ _ _ h=>h) (Or.inl ⟨by rfl,?_⟩) ?_ ?_
                      rotate_left
                      ·intro w'
                       go_simp
                       with_reducible rfl
                      rotate_left
                      ·simp only [Act.put,aA,aB,aC,i64_w,i32_w]
                       rfl
                      refine pure_ (i:=6) (N:=some 54) (v:=?_) (a':=?_) #[true,true,true,true,true,true,true,false,false,false,false,false,false,false,false,false,false,false,false,false,false,false,false] rfl rfl (any_of HT_.out (by kernel_rfl)) (fun _ _ _ h=>h) (Or.inl ⟨by rfl,?_⟩) ?_ ?_
                      rotate_left
                      ·intro w'
                       go_simp
                       with_reducible rfl
                      rotate_left
                      ·simp only [Act.put,aA,aB,aC,i64_w,i32_w]
                       rfl
                      refine pure_ (i:=7) (N:=some 55) (v:=?_) (a':=?_) #[true,true,true,true,true,true,true,true,false,false,false,false,false,false,false,false,false,false,false,false,false,false,false] rfl rfl (any_of HT_.out (by kernel_rfl)) (fun _ _ _ h=>h) (Or.inl ⟨by rfl,?_⟩) ?_ ?_
                      rotate_left
                      ·intro w'
                       go_simp
                       with_reducible rfl
                      rotate_left
                      ·simp only [Act.put,aA,aB,aC,i64_w,i32_w]
                       rfl
                      refine pure_ (i:=8) (N:=some 56) (v:=?_) (a':=?_) #[true,true,true,true,true,true,true,true,true,false,false,false,false,false,false,false,false,false,false,false,false,false,false] rfl rfl (any_of HT_.out (by kernel_rfl)) (fun _ _ _ h=>h) (Or.inl ⟨by rfl,?_⟩) ?_ ?_
                      rotate_left
                      ·intro w'
                       go_simp
                       with_reducible rfl
                      rotate_left
                      ·simp only [Act.put,aA,aB,aC,i64_w,i32_w]
                       rfl
                      refine pure_ (i:=10) (N:=some 58) (v:=?_) (a':=?_) #[true,true,true,true,true,true,true,true,true,false,true,false,false,false,false,false,false,false,false,false,false,false,false] rfl rfl (any_of HT_.out (by kernel_rfl)) (fun _ _ _ h=>h) (Or.inl ⟨by rfl,?_⟩) ?_ ?_
                      rotate_left
                      ·intro w'
                       go_simp
                       with_reducible rfl
                      rotate_left
                      ·simp only [Act.put,aA,aB,aC,i64_w,i32_w]
                       rfl
                      refine pure_ (i:=11) (N:=some 59) (v:=?_) (a':=?_) #[true,true,true,true,true,true,true,true,true,false,true,true,false,false,false,false,false,false,false,false,false,false,false] rfl rfl (any_of HT_.out (by kernel_rfl)) (fun _ _ _ h=>h) (Or.inl ⟨by rfl,?_⟩) ?_ ?_
                      rotate_left
                      ·intro w'
                       go_simp
                       with_reducible rfl
                      rotate_left
                      ·simp only [Act.put,aA,aB,aC,i64_w,i32_w]
                       rfl
                      refine pure_ (i:=12) (N:=some 60) (v:=?_) (a':=?_) #[true,true,true,true,true,true,true,true,true,false,true,true,true,false,false,false,false,false,false,false,false,false,false] rfl rfl (any_of HT_.out (by kernel_rfl)) (fun _ _ _ h=>h) (Or.inl ⟨by rfl,?_⟩) ?_ ?_
                      rotate_left
                      ·intro w'
                       go_simp
                       with_reducible rfl
                      rotate_left
                      ·simp only [Act.put,aA,aB,aC,i64_w,i32_w]
                       rfl
                      refine take_ (i:=9) (N:=some 57) (v:=?_) (a':=?_) #[true,true,true,true,true,true,true,true,true,true,true,true,true,false,false,false,false,false,false,false,false,false,false] rfl rfl (take_ofW HT_.out HW_.out (by kernel_rfl)) (fun _ _ _ h=>h) (Or.inl ⟨by rfl,?_⟩) hHeld ?_ ?_
                      rotate_left
                      ·rintro w' ⟨s0,s1,s2,s3⟩
                       go_simp
                       with_reducible rfl
                      rotate_left
                      ·simp only [Act.put,aA,aB,aC,i64_w,i32_w]
                       rfl
                      refine take_ (i:=13) (N:=some 61) (v:=?_) (a':=?_) #[true,true,true,true,true,true,true,true,true,true,true,true,true,true,false,false,false,false,false,false,false,false,false] rfl rfl (take_ofW HT_.out HW_.out (by kernel_rfl)) (fun _ _ _ h=>h) (Or.inl ⟨by rfl,?_⟩) hHeld ?_ ?_
                      rotate_left
                      ·rintro w' ⟨s0,s1,s2,s3⟩
                       go_simp
                       with_reducible rfl
                      rotate_left
                      ·simp only [Act.put,aA,aB,aC,i64_w,i32_w]
                       rfl
                      refine pure_ (i:=14) (N:=some 62) (v:=?_) (a':=?_) #[true,true,true,true,true,true,true,true,true,true,true,true,true,true,true,false,false,false,false,false,false,false,false] rfl rfl (any_of HT_.out (by kernel_rfl)) (fun _ _ _ h=>h) (Or.inl ⟨by rfl,?_⟩) ?_ ?_
                      rotate_left
                      ·intro w'
                       go_simp
                       with_reducible rfl
                      rotate_left
                      ·simp only [Act.put,aA,aB,aC,i64_w,i32_w]
                       rfl
                      refine pure_ (i:=15) (N:=some 63) (v:=?_) (a':=?_) #[true,true,true,true,true,true,true,true,true,true,true,true,true,true,true,true,false,false,false,false,false,false,false] rfl rfl (any_of HT_.out (by kernel_rfl)) (fun _ _ _ h=>h) (Or.inl ⟨by rfl,?_⟩) ?_ ?_
                      rotate_left
                      ·intro w'
                       go_simp
                       with_reducible rfl
                      rotate_left
                      ·simp only [Act.put,aA,aB,aC,i64_w,i32_w]
                       rfl
                      refine pure_ (i:=16) (N:=some 64) (v:=?_) (a':=?_) #[true,true,true,true,true,true,true,true,true,true,true,true,true,true,true,true,true,false,false,false,false,false,false] rfl rfl (any_of HT_.out (by kernel_rfl)) (fun _ _ _ h=>h) (Or.inl ⟨by rfl,?_⟩) ?_ ?_
                      rotate_left
                      ·intro w'
                       go_simp
                       with_reducible rfl
                      rotate_left
                      ·simp only [Act.put,aA,aB,aC,i64_w,i32_w]
                       rfl
                      refine pure_ (i:=17) (N:=some 65) (v:=?_) (a':=?_) #[true,true,true,true,true,true,true,true,true,true,true,true,true,true,true,true,true,true,false,false,false,false,false] rfl rfl (any_of HT_.out (by kernel_rfl)) (fun _ _ _ h=>h) (Or.inl ⟨by rfl,?_⟩) ?_ ?_
                      rotate_left
                      ·intro w'
                       go_simp
                       with_reducible rfl
                      rotate_left
                      ·simp only [Act.put,aA,aB,aC,i64_w,i32_w]
                       rfl
                      refine pure_ (i:=18) (N:=some 66) (v:=?_) (a':=?_) #[true,true,true,true,true,true,true,true,true,true,true,true,true,true,true,true,true,true,true,false,false,false,false] rfl rfl (any_of HT_.out (by kernel_rfl)) (fun _ _ _ h=>h) (Or.inl ⟨by rfl,?_⟩) ?_ ?_
                      rotate_left
                      ·intro w'
                       go_simp
                       with_reducible rfl
                      rotate_left
                      ·simp only [Act.put,aA,aB,aC,i64_w,i32_w]
                       rfl
                      refine pure_ (i:=19) (N:=some 67) (v:=?_) (a':=?_) #[true,true,true,true,true,true,true,true,true,true,true,true,true,true,true,true,true,true,true,true,false,false,false] rfl rfl (any_of HT_.out (by kernel_rfl)) (fun _ _ _ h=>h) (Or.inl ⟨by rfl,?_⟩) ?_ ?_
                      rotate_left
                      ·intro w'
                       go_simp
                       with_reducible rfl
                      rotate_left
                      ·simp only [Act.put,aA,aB,aC,i64_w,i32_w]
                       rfl
                      refine take_ (i:=20) (N:=some 68) (v:=?_) (a':=?_) #[true,true,true,true,true,true,true,true,true,true,true,true,true,true,true,true,true,true,true,true,true,false,false] rfl rfl (take_ofW HT_.out HW_.out (by kernel_rfl)) (fun _ _ _ h=>h) (Or.inl ⟨by rfl,?_⟩) hHeld ?_ ?_
                      rotate_left
                      ·rintro w' ⟨s0,s1,s2,s3⟩
                       go_simp
                       with_reducible rfl
                      rotate_left
                      ·simp only [Act.put,aA,aB,aC,i64_w,i32_w]
                       rfl
                      refine pure_ (i:=21) (N:=some 69) (v:=?_) (a':=?_) #[true,true,true,true,true,true,true,true,true,true,true,true,true,true,true,true,true,true,true,true,true,true,false] rfl rfl (any_of HT_.out (by kernel_rfl)) (fun _ _ _ h=>h) (Or.inl ⟨by rfl,?_⟩) ?_ ?_
                      rotate_left
                      ·intro w'
                       go_simp
                       with_reducible rfl
                      rotate_left
                      ·simp only [Act.put,aA,aB,aC,i64_w,i32_w]
                       rfl
                      refine pure_ (i:=22) (N:=some 70) (v:=?_) (a':=?_) #[true,true,true,true,true,true,true,true,true,true,true,true,true,true,true,true,true,true,true,true,true,true,true] rfl rfl (any_of HT_.out (by kernel_rfl)) (fun _ _ _ h=>h) (Or.inl ⟨by rfl,?_⟩) ?_ ?_
                      rotate_left
                      ·intro w'
                       go_simp
                       with_reducible rfl
                      rotate_left
                      ·simp only [Act.put,aA,aB,aC,i64_w,i32_w]
                       rfl
                      refine done_ (done_of HT_.out (by kernel_rfl)) ?_
                      try go_wp2
                      go_roundg k3
                      case measure=>have:=HK1.out;have:=HK2.out;have:=HK3.out;omega
                      case rel=>exact ⟨(x8_2),(x9_3),(wrap64 (x44_2+1)),(by first|rfl|(simp;done)|(simp [*];done)),(by first|rfl|(simp;done)|(simp [*];done)),H',⟨by have:=HK1.out;have:=HK2.out;have:=HK3.out;omega⟩,⟨by (with_reducible repeat (first|apply Kd.Qe|apply Kd.Qd|apply Kd.R_drew));exact HO_9.out⟩,⟨by repeat (first|(with_reducible first|exact HB.out|apply Qc|apply Qa|apply Qb)|exact HB.out)⟩⟩
                    ·rw [if_neg c36] at H;have c36b0:decide (0<x14_3)=false:=decide_eq_false c36;clear c36;have H':=aM H;clear H
                     try go_wp2
                     have n0_:=aM (Kd.R_drew HO_9.out);have n1_:=aM (Qb HB.out);clear HO_9;clear HB;have HO_9:=n0_;have HB:=n1_;clear n0_ n1_;have p107:0≤(x13_3:Int):=of_decide_eq_true (by first|(with_reducible assumption)|assumption);have q107:x13_3<(l0.length:Int):=of_decide_eq_true (by first|(with_reducible assumption)|assumption);obtain ⟨ad107,e107,hx107_0⟩:=Kd.at_int HR0.out x13_3 p107 q107;have hw107_0:=hx107_0
                     cases e107
                     replace hx107_0:=(HB.out.cell (aI w _ hx107_0)).trans hx107_0;replace p107:=eq_true p107;replace q107:=eq_true q107;have p108:0≤(x13_3:Int):=of_decide_eq_true (by first|(with_reducible assumption)|assumption);have q108:x13_3<(l0.length:Int):=of_decide_eq_true (by first|(with_reducible assumption)|assumption);obtain ⟨ad108,e108,hx108_0⟩:=Kd.at_int HR0.out x13_3 p108 q108;have hw108_0:=hx108_0;obtain rfl:ad107=ad108:=(by injection e108);replace hx108_0:=(HB.out.cell (aI w _ hx108_0)).trans hx108_0;replace p108:=eq_true p108;replace q108:=eq_true q108;have p109:0≤(x13_3:Int):=of_decide_eq_true (by first|(with_reducible assumption)|assumption);have q109:x13_3<(l1.length:Int):=of_decide_eq_true (by first|(with_reducible assumption)|assumption);obtain ⟨ad109,e109,hx109_0⟩:=Kd.at_int HR1.out x13_3 p109 q109;have hw109_0:=hx109_0
                     cases e109
                     replace hx109_0:=(HB.out.cell (aI w _ hx109_0)).trans hx109_0;replace p109:=eq_true p109;replace q109:=eq_true q109;obtain ⟨Ao43,co43,eo43⟩:=Kd.R_slice HO_9.out
                     (first|subst eo43|(injection eo43 with f1_ f2_ f3_;have f4_:=f1_.symm;have f5_:=f3_.symm;clear f1_ f2_ f3_;subst f4_;subst f5_))
                     have p110:0≤(x13_3:Int):=of_decide_eq_true (by first|(with_reducible assumption)|assumption);have q110:x13_3<(x9_3.length:Int):=of_decide_eq_true (by first|(with_reducible assumption)|assumption);obtain ⟨ad110,e110,hx110_0⟩:=Kd.at_bool (Kd.Qf HO_9.out).2.2 x13_3 p110 q110;(try rw [←Nbq34.out] at hx110_0)
                     cases e110
                     replace p110:=eq_true p110;replace q110:=eq_true q110;refine start_ (n:=23) (S:=fun w'=>w'.cell? (ad107.add (x13_3).toNat)=some (.int .i64 (rd l0 x13_3))∧w'.cell? (ad107.add (x13_3).toNat)=some (.int .i64 (rd l0 x13_3))∧w'.cell? (ad109.add (x13_3).toNat)=some (.int .i64 (rd l1 x13_3))∧w'.cell? (ad110.add (x13_3).toNat)=some (.bool true)) (ds:=[]) #[false,false,false,false,false,false,false,false,false,false,false,false,false,false,false,false,false,false,false,false,false,false,false] (by kernel_rfl) rfl rfl ⟨((HB.out.cell (aI w _ hw107_0)).trans hw107_0),((HB.out.cell (aI w _ hw108_0)).trans hw108_0),((HB.out.cell (aI w _ hw109_0)).trans hw109_0),hx110_0⟩ (fun hHeld=>?_);refine with_tabW impl_RingsOf.tab14 impl_RingsOf.bits14 (fun HT_ HW_=>?_)
                     generalize wr.drew=w42 at HO_9 HB hx107_0 hx108_0 hx109_0 hx110_0 hHeld ⊢
                     refine pure_ (i:=0) (N:=some 48) (v:=?_) (a':=?_) #[true,false,false,false,false,false,false,false,false,false,false,false,false,false,false,false,false,false,false,false,false,false,false] rfl rfl (any_of HT_.out (by kernel_rfl)) (fun _ _ _ h=>h) (Or.inl ⟨by rfl,?_⟩) ?_ ?_
                     rotate_left
                     ·intro w'
                      go_simp
                      with_reducible rfl
                     rotate_left
                     ·simp only [Act.put,aA,aB,aC,i64_w,i32_w]
                      rfl
                     refine pure_ (i:=1) (N:=some 49) (v:=?_) (a':=?_) #[true,true,false,false,false,false,false,false,false,false,false,false,false,false,false,false,false,false,false,false,false,false,false] rfl rfl (any_of HT_.out (by kernel_rfl)) (fun _ _ _ h=>h) (Or.inl ⟨by rfl,?_⟩) ?_ ?_
                     rotate_left
                     ·intro w'
                      go_simp
                      with_reducible rfl
                     rotate_left
                     ·simp only [Act.put,aA,aB,aC,i64_w,i32_w]
                      rfl
                     refine pure_ (i:=2) (N:=some 50) (v:=?_) (a':=?_) #[true,true,true,false,false,false,false,false,false,false,false,false,false,false,false,false,false,false,false,false,false,false,false] rfl rfl (any_of HT_.out (by kernel_rfl)) (fun _ _ _ h=>h) (Or.inl ⟨by rfl,?_⟩) ?_ ?_
                     rotate_left
                     ·intro w'
                      go_simp
                      with_reducible rfl
                     rotate_left
                     ·simp only [Act.put,aA,aB,aC,i64_w,i32_w]
                      rfl
                     refine take_ (i:=3) (N:=some 51) (v:=?_) (a':=?_) #[true,true,true,true,false,false,false,false,false,false,false,false,false,false,false,false,false,false,false,false,false,false,false] rfl rfl (take_ofW HT_.out HW_.out (by kernel_rfl)) (fun _ _ _ h=>h) (Or.inl ⟨by rfl,?_⟩) hHeld ?_ ?_
                     rotate_left
                     ·rintro w' ⟨s0,s1,s2,s3⟩
                      go_simp
                      with_reducible rfl
                     rotate_left
                     ·simp only [Act.put,aA,aB,aC,i64_w,i32_w]
                      rfl
                     refine pure_ (i:=4) (N:=some 52) (v:=?_) (a':=?_) #[true,true,true,true,true,false,false,false,false,false,false,false,false,false,false,false,false,false,false,false,false,false,false] rfl rfl (any_of HT_.out (by kernel_rfl)) (fun _ _ _ h=>h) (Or.inl ⟨by rfl,?_⟩) ?_ ?_
                     rotate_left
                     ·intro w'
                      go_simp
                      with_reducible rfl
                     rotate_left
                     ·simp only [Act.put,aA,aB,aC,i64_w,i32_w]
                      rfl
                     refine pure_ (i:=5) (N:=some 53) (v:=?_) (a':=?_) #[true,true,true,true,true,true,false,false,false,false,false,false,false,false,false,false,false,false,false,false,false,false,false] rfl rfl (any_of HT_.out (by kernel_rfl)) (fun _ _ _ h=>h) (Or.inl ⟨by rfl,?_⟩) ?_ ?_
                     rotate_left
                     ·intro w'
                      go_simp
                      with_reducible rfl
                     rotate_left
                     ·simp only [Act.put,aA,aB,aC,i64_w,i32_w]
                      rfl
                     refine pure_ (i:=6) (N:=some 54) (v:=?_) (a':=?_) #[true,true,true,true,true,true,true,false,false,false,false,false,false,false,false,false,false,false,false,false,false,false,false] rfl rfl (any_of HT_.out (by kernel_rfl)) (fun _ _ _ h=>h) (Or.inl ⟨by rfl,?_⟩) ?_ ?_
                     rotate_left
                     ·intro w'
                      go_simp
                      with_reducible rfl
                     rotate_left
                     ·simp only [Act.put,aA,aB,aC,i64_w,i32_w]
                      rfl
                     refine pure_ (i:=7) (N:=some 55) (v:=?_) (a':=?_) #[true,true,true,true,true,true,true,true,false,false,false,false,false,false,false,false,false,false,false,false,false,false,false] rfl rfl (any_of HT_.out (by kernel_rfl)) (fun _ _ _ h=>h) (Or.inl ⟨by rfl,?_⟩) ?_ ?_
                     rotate_left
                     ·intro w'
                      go_simp
                      with_reducible rfl
                     rotate_left
                     ·simp only [Act.put,aA,aB,aC,i64_w,i32_w]
                      rfl
                     refine pure_ (i:=8) (N:=some 56) (v:=?_) (a':=?_) #[true,true,true,true,true,true,true,true,true,false,false,false,false,false,false,false,false,false,false,false,false,false,false] rfl rfl (any_of HT_.out (by kernel_rfl)) (fun _ _ _ h=>h) (Or.inl ⟨by rfl,?_⟩) ?_ ?_
                     rotate_left
                     ·intro w'
                      go_simp
                      with_reducible rfl
                     rotate_left
                     ·simp only [Act.put,aA,aB,aC,i64_w,i32_w]
                      rfl
                     refine pure_ (i:=10) (N:=some 58) (v:=?_) (a':=?_) #[true,true,true,true,true,true,true,true,true,false,true,false,false,false,false,false,false,false,false,false,false,false,false] rfl rfl (any_of HT_.out (by kernel_rfl)) (fun _ _ _ h=>h) (Or.inl ⟨by rfl,?_⟩) ?_ ?_
                     rotate_left
                     ·intro w'
                      go_simp
                      with_reducible rfl
                     rotate_left
                     ·simp only [Act.put,aA,aB,aC,i64_w,i32_w]
                      rfl
                     refine pure_ (i:=11) (N:=some 59) (v:=?_) (a':=?_) #[true,true,true,true,true,true,true,true,true,false,true,true,false,false,false,false,false,false,false,false,false,false,false] rfl rfl (any_of HT_.out (by kernel_rfl)) (fun _ _ _ h=>h) (Or.inl ⟨by rfl,?_⟩) ?_ ?_
                     rotate_left
                     ·intro w'
                      go_simp
                      with_reducible rfl
                     rotate_left
                     ·simp only [Act.put,aA,aB,aC,i64_w,i32_w]
                      rfl
                     refine pure_ (i:=12) (N:=some 60) (v:=?_) (a':=?_) #[true,true,true,true,true,true,true,true,true,false,true,true,true,false,false,false,false,false,false,false,false,false,false] rfl rfl (any_of HT_.out (by kernel_rfl)) (fun _ _ _ h=>h) (Or.inl ⟨by rfl,?_⟩) ?_ ?_
                     rotate_left
                     ·intro w'
                      go_simp
                      with_reducible rfl
                     rotate_left
                     ·simp only [Act.put,aA,aB,aC,i64_w,i32_w]
                      rfl
                     refine take_ (i:=9) (N:=some 57) (v:=?_) (a':=?_) #[true,true,true,true,true,true,true,true,true,true,true,true,true,false,false,false,false,false,false,false,false,false,false] rfl rfl (take_ofW HT_.out HW_.out (by kernel_rfl)) (fun _ _ _ h=>h) (Or.inl ⟨by rfl,?_⟩) hHeld ?_ ?_
                     rotate_left
                     ·rintro w' ⟨s0,s1,s2,s3⟩
                      go_simp
                      with_reducible rfl
                     rotate_left
                     ·simp only [Act.put,aA,aB,aC,i64_w,i32_w]
                      rfl
                     refine take_ (i:=13) (N:=some 61) (v:=?_) (a':=?_) #[true,true,true,true,true,true,true,true,true,true,true,true,true,true,false,false,false,false,false,false,false,false,false] rfl rfl (take_ofW HT_.out HW_.out (by kernel_rfl)) (fun _ _ _ h=>h) (Or.inl ⟨by rfl,?_⟩) hHeld ?_ ?_
                     rotate_left
                     ·rintro w' ⟨s0,s1,s2,s3⟩
                      go_simp
                      with_reducible rfl
                     rotate_left
                     ·simp only [Act.put,aA,aB,aC,i64_w,i32_w]
                      rfl
                     refine pure_ (i:=14) (N:=some 62) (v:=?_) (a':=?_) #[true,true,true,true,true,true,true,true,true,true,true,true,true,true,true,false,false,false,false,false,false,false,false] rfl rfl (any_of HT_.out (by kernel_rfl)) (fun _ _ _ h=>h) (Or.inl ⟨by rfl,?_⟩) ?_ ?_
                     rotate_left
                     ·intro w'
                      go_simp
                      with_reducible rfl
                     rotate_left
                     ·simp only [Act.put,aA,aB,aC,i64_w,i32_w]
                      rfl
                     refine pure_ (i:=15) (N:=some 63) (v:=?_) (a':=?_) #[true,true,true,true,true,true,true,true,true,true,true,true,true,true,true,true,false,false,false,false,false,false,false] rfl rfl (any_of HT_.out (by kernel_rfl)) (fun _ _ _ h=>h) (Or.inl ⟨by rfl,?_⟩) ?_ ?_
                     rotate_left
                     ·intro w'
                      go_simp
                      with_reducible rfl
                     rotate_left
                     ·simp only [Act.put,aA,aB,aC,i64_w,i32_w]
                      rfl
                     refine pure_ (i:=16) (N:=some 64) (v:=?_) (a':=?_) #[true,true,true,true,true,true,true,true,true,true,true,true,true,true,true,true,true,false,false,false,false,false,false] rfl rfl (any_of HT_.out (by kernel_rfl)) (fun _ _ _ h=>h) (Or.inl ⟨by rfl,?_⟩) ?_ ?_
                     rotate_left
                     ·intro w'
                      go_simp
                      with_reducible rfl
                     rotate_left
                     ·simp only [Act.put,aA,aB,aC,i64_w,i32_w]
                      rfl
                     refine pure_ (i:=17) (N:=some 65) (v:=?_) (a':=?_) #[true,true,true,true,true,true,true,true,true,true,true,true,true,true,true,true,true,true,false,false,false,false,false] rfl rfl (any_of HT_.out (by kernel_rfl)) (fun _ _ _ h=>h) (Or.inl ⟨by rfl,?_⟩) ?_ ?_
                     rotate_left
                     ·intro w'
                      go_simp
                      with_reducible rfl
                     rotate_left
                     ·simp only [Act.put,aA,aB,aC,i64_w,i32_w]
                      rfl
                     refine pure_ (i:=18) (N:=some 66) (v:=?_) (a':=?_) #[true,true,true,true,true,true,true,true,true,true,true,true,true,true,true,true,true,true,true,false,false,false,false] rfl rfl (any_of HT_.out (by kernel_rfl)) (fun _ _ _ h=>h) (Or.inl ⟨by rfl,?_⟩) ?_ ?_
                     rotate_left
                     ·intro w'
                      go_simp
                      with_reducible rfl
                     rotate_left
                     ·simp only [Act.put,aA,aB,aC,i64_w,i32_w]
                      rfl
                     refine pure_ (i:=19) (N:=some 67) (v:=?_) (a':=?_) #[true,true,true,true,true,true,true,true,true,true,true,true,true,true,true,true,true,true,true,true,false,false,false] rfl rfl (any_of HT_.out (by kernel_rfl)) (fun _ _ _ h=>h) (Or.inl ⟨by rfl,?_⟩) ?_ ?_
                     rotate_left
                     ·intro w'
                      go_simp
                      with_reducible rfl
                     rotate_left
                     ·simp only [Act.put,aA,aB,aC,i64_w,i32_w]
                      rfl
                     refine take_ (i:=20) (N:=some 68) (v:=?_) (a':=?_) #[true,true,true,true,true,true,true,true,true,true,true,true,true,true,true,true,true,true,true,true,true,false,false] rfl rfl (take_ofW HT_.out HW_.out (by kernel_rfl)) (fun _ _ _ h=>h) (Or.inl ⟨by rfl,?_⟩) hHeld ?_ ?_
                     rotate_left
                     ·rintro w' ⟨s0,s1,s2,s3⟩
                      go_simp
                      with_reducible rfl
                     rotate_left
                     ·simp only [Act.put,aA,aB,aC,i64_w,i32_w]
                      rfl
                     refine pure_ (i:=21) (N:=some 69) (v:=?_) (a':=?_) #[true,true,true,true,true,true,true,true,true,true,true,true,true,true,true,true,true,true,true,true,true,true,false] rfl rfl (any_of HT_.out (by kernel_rfl)) (fun _ _ _ h=>h) (Or.inl ⟨by rfl,?_⟩) ?_ ?_
                     rotate_left
                     ·intro w'
                      go_simp
                      with_reducible rfl
                     rotate_left
                     ·simp only [Act.put,aA,aB,aC,i64_w,i32_w]
                      rfl
                     refine pure_ (i:=22) (N:=some 70) (v:=?_) (a':=?_) #[true,true,true,true,true,true,true,true,true,true,true,true,true,true,true,true,true,true,true,true,true,true,true] rfl rfl (any_of HT_.out (by kernel_rfl)) (fun _ _ _ h=>h) (Or.inl ⟨by rfl,?_⟩) ?_ ?_
                     rotate_left
                     ·intro w'
                      go_simp
                      with_reducible rfl
                     rotate_left
                     ·simp only [Act.put,aA,aB,aC,i64_w,i32_w]
                      rfl
                     refine done_ (done_of HT_.out (by kernel_rfl)) ?_
                     try go_wp2
                     go_roundg k3
                     case measure=>have:=HK1.out;have:=HK2.out;have:=HK3.out;omega
                     case rel=>exact ⟨(x8_2),(x9_3),(wrap64 (x44_2+1)),(by first|rfl|(simp;done)|(simp [*];done)),(by first|rfl|(simp;done)|(simp [*];done)),H',⟨by have:=HK1.out;have:=HK2.out;have:=HK3.out;omega⟩,⟨by (with_reducible repeat (first|apply Kd.Qe|apply Kd.Qd|apply Kd.R_drew));exact HO_9.out⟩,⟨by repeat (first|(with_reducible first|exact HB.out|apply Qc|apply Qa|apply Qb)|exact HB.out)⟩⟩
                   ·replace c35:=Bool.eq_false_iff.mpr c35;subst c35;have H1:((slices_Index_int_int.f k3 l1 (rd l0 x13_3)).bind fun t113=>(impl_RingsOf.l2 k3 l0 l1 x7_1 x8_2 (x9_3.set (x13_3:Int).toNat true) x44_2 t113 (wrap64 (x14_3+1)) (l0.length:Int) x44_2))=some (r1,r2,r3):=by rw [if_neg (show ¬ (false=true) by decide)] at H;exact H
                    clear H;have H:=H1;clear H1;obtain ⟨y111,hy111⟩:∃ y_:List Bool,y_=(x9_3.set (x13_3:Int).toNat true):=⟨_,rfl⟩;replace H:((slices_Index_int_int.f k3 l1 (rd l0 x13_3)).bind fun t113=>(impl_RingsOf.l2 k3 l0 l1 x7_1 x8_2 y111 x44_2 t113 (wrap64 (x14_3+1)) (l0.length:Int) x44_2))=some (r1,r2,r3):=by first|(rw [hy111];with_reducible exact H)|(have H2_:=(Option.bind_some _ _).symm.trans H;rw [hy111];with_reducible exact H2_)|(have H2_:=(Option.bind_some _ _).symm.trans H;with_reducible exact H2_)|with_reducible exact H|(rw [hy111];exact H)|exact H
                    have Ny111:=aM hy111;clear hy111;replace H:=Option.bind_eq_some_iff.mp H;obtain ⟨t113,A450,H⟩:=H;replace H:(impl_RingsOf.l2 k3 l0 l1 x7_1 x8_2 y111 x44_2 t113 (wrap64 (x14_3+1)) (l0.length:Int) x44_2)=some (r1,r2,r3):=H;have A45:=aM A450;clear A450;have H':=aM H;clear H
                    try go_wp2
                    have n0_:=aM (Kd.R_drew HO_9.out);have n1_:=aM (Qb HB.out);clear HO_9;clear HB;have HO_9:=n0_;have HB:=n1_;clear n0_ n1_;have p107:0≤(x13_3:Int):=of_decide_eq_true (by first|(with_reducible assumption)|assumption);have q107:x13_3<(l0.length:Int):=of_decide_eq_true (by first|(with_reducible assumption)|assumption);obtain ⟨ad107,e107,hx107_0⟩:=Kd.at_int HR0.out x13_3 p107 q107;have hw107_0:=hx107_0
                    cases e107
                    replace hx107_0:=(HB.out.cell (aI w _ hx107_0)).trans hx107_0;replace p107:=eq_true p107;replace q107:=eq_true q107;have p108:0≤(x13_3:Int):=of_decide_eq_true (by first|(with_reducible assumption)|assumption);have q108:x13_3<(l0.length:Int):=of_decide_eq_true (by first|(with_reducible assumption)|assumption);obtain ⟨ad108,e108,hx108_0⟩:=Kd.at_int HR0.out x13_3 p108 q108;have hw108_0:=hx108_0;obtain rfl:ad107=ad108:=(by injection e108);replace hx108_0:=(HB.out.cell (aI w _ hx108_0)).trans hx108_0;replace p108:=eq_true p108;replace q108:=eq_true q108;have p109:0≤(x13_3:Int):=of_decide_eq_true (by first|(with_reducible assumption)|assumption);have q109:x13_3<(l1.length:Int):=of_decide_eq_true (by first|(with_reducible assumption)|assumption);obtain ⟨ad109,e109,hx109_0⟩:=Kd.at_int HR1.out x13_3 p109 q109;have hw109_0:=hx109_0
                    cases e109
                    replace hx109_0:=(HB.out.cell (aI w _ hx109_0)).trans hx109_0;replace p109:=eq_true p109;replace q109:=eq_true q109;obtain ⟨Ao47,co47,eo47⟩:=Kd.R_slice HO_9.out
                    (first|subst eo47|(injection eo47 with f1_ f2_ f3_;have f4_:=f1_.symm;have f5_:=f3_.symm;clear f1_ f2_ f3_;subst f4_;subst f5_))
                    have p110:0≤(x13_3:Int):=of_decide_eq_true (by first|(with_reducible assumption)|assumption);have q110:x13_3<(x9_3.length:Int):=of_decide_eq_true (by first|(with_reducible assumption)|assumption);obtain ⟨ad110,e110,hx110_0⟩:=Kd.at_bool (Kd.Qf HO_9.out).2.2 x13_3 p110 q110;(try rw [←Nbq34.out] at hx110_0)
                    cases e110
                    replace p110:=eq_true p110;replace q110:=eq_true q110;refine start_ (n:=23) (S:=fun w'=>w'.cell? (ad107.add (x13_3).toNat)=some (.int .i64 (rd l0 x13_3))∧w'.cell? (ad107.add (x13_3).toNat)=some (.int .i64 (rd l0 x13_3))∧w'.cell? (ad109.add (x13_3).toNat)=some (.int .i64 (rd l1 x13_3))∧w'.cell? (ad110.add (x13_3).toNat)=some (.bool false)) (ds:=[]) #[false,false,false,false,false,false,false,false,false,false,false,false,false,false,false,false,false,false,false,false,false,false,false] (by kernel_rfl) rfl rfl ⟨((HB.out.cell (aI w _ hw107_0)).trans hw107_0),((HB.out.cell (aI w _ hw108_0)).trans hw108_0),((HB.out.cell (aI w _ hw109_0)).trans hw109_0),hx110_0⟩ (fun hHeld=>?_);refine with_tabW impl_RingsOf.tab14 impl_RingsOf.bits14 (fun HT_ HW_=>?_)
                    generalize wr.drew=w46 at HO_9 HB hx107_0 hx108_0 hx109_0 hx110_0 hHeld ⊢
                    refine pure_ (i:=0) (N:=some 48) (v:=?_) (a':=?_) #[true,false,false,false,false,false,false,false,false,false,false,false,false,false,false,false,false,false,false,false,false,false,false] rfl rfl (any_of HT_.out (by kernel_rfl)) (fun _ _ _ h=>h) (Or.inl ⟨by rfl,?_⟩) ?_ ?_
                    rotate_left
                    ·intro w'
                     go_simp
                     with_reducible rfl
                    rotate_left
                    ·simp only [Act.put,aA,aB,aC,i64_w,i32_w]
                     rfl
                    refine pure_ (i:=1) (N:=some 49) (v:=?_) (a':=?_) #[true,true,false,false,false,false,false,false,false,false,false,false,false,false,false,false,false,false,false,false,false,false,false] rfl rfl (any_of HT_.out (by kernel_rfl)) (fun _ _ _ h=>h) (Or.inl ⟨by rfl,?_⟩) ?_ ?_
                    rotate_left
                    ·intro w'
                     go_simp
                     with_reducible rfl
                    rotate_left
                    ·simp only [Act.put,aA,aB,aC,i64_w,i32_w]
                     rfl
                    refine pure_ (i:=2) (N:=some 50) (v:=?_) (a':=?_) #[true,true,true,false,false,false,false,false,false,false,false,false,false,false,false,false,false,false,false,false,false,false,false] rfl rfl (any_of HT_.out (by kernel_rfl)) (fun _ _ _ h=>h) (Or.inl ⟨by rfl,?_⟩) ?_ ?_
                    rotate_left
                    ·intro w'
                     go_simp
                     with_reducible rfl
                    rotate_left
                    ·simp only [Act.put,aA,aB,aC,i64_w,i32_w]
                     rfl
                    refine take_ (i:=3) (N:=some 51) (v:=?_) (a':=?_) #[true,true,true,true,false,false,false,false,false,false,false,false,false,false,false,false,false,false,false,false,false,false,false] rfl rfl (take_ofW HT_.out HW_.out (by kernel_rfl)) (fun _ _ _ h=>h) (Or.inl ⟨by rfl,?_⟩) hHeld ?_ ?_
                    rotate_left
                    ·rintro w' ⟨s0,s1,s2,s3⟩
                     go_simp
                     with_reducible rfl
                    rotate_left
                    ·simp only [Act.put,aA,aB,aC,i64_w,i32_w]
                     rfl
                    refine pure_ (i:=4) (N:=some 52) (v:=?_) (a':=?_) #[true,true,true,true,true,false,false,false,false,false,false,false,false,false,false,false,false,false,false,false,false,false,false] rfl rfl (any_of HT_.out (by kernel_rfl)) (fun _ _ _ h=>h) (Or.inl ⟨by rfl,?_⟩) ?_ ?_
                    rotate_left
                    ·intro w'
                     go_simp
                     with_reducible rfl
                    rotate_left
                    ·simp only [Act.put,aA,aB,aC,i64_w,i32_w]
                     rfl
                    refine pure_ (i:=5) (N:=some 53) (v:=?_) (a':=?_) #[true,true,true,true,true,true,false,false,false,false,false,false,false,false,false,false,false,false,false,false,false,false,false] rfl rfl (any_of HT_.out (by kernel_rfl)) (fun _ _ _ h=>h) (Or.inl ⟨by rfl,?_⟩) ?_ ?_
                    rotate_left
                    ·intro w'
                     go_simp
                     with_reducible rfl
                    rotate_left
                    ·simp only [Act.put,aA,aB,aC,i64_w,i32_w]
                     rfl
                    refine pure_ (i:=6) (N:=some 54) (v:=?_) (a':=?_) #[true,true,true,true,true,true,true,false,false,false,false,false,false,false,false,false,false,false,false,false,false,false,false] rfl rfl (any_of HT_.out (by kernel_rfl)) (fun _ _ _ h=>h) (Or.inl ⟨by rfl,?_⟩) ?_ ?_
                    rotate_left
                    ·intro w'
                     go_simp
                     with_reducible rfl
                    rotate_left
                    ·simp only [Act.put,aA,aB,aC,i64_w,i32_w]
                     rfl
                    refine pure_ (i:=7) (N:=some 55) (v:=?_) (a':=?_) #[true,true,true,true,true,true,true,true,false,false,false,false,false,false,false,false,false,false,false,false,false,false,false] rfl rfl (any_of HT_.out (by kernel_rfl)) (fun _ _ _ h=>h) (Or.inl ⟨by rfl,?_⟩) ?_ ?_
                    rotate_left
                    ·intro w'
                     go_simp
                     with_reducible rfl
                    rotate_left
                    ·simp only [Act.put,aA,aB,aC,i64_w,i32_w]
                     rfl
                    refine pure_ (i:=8) (N:=some 56) (v:=?_) (a':=?_) #[true,true,true,true,true,true,true,true,true,false,false,false,false,false,false,false,false,false,false,false,false,false,false] rfl rfl (any_of HT_.out (by kernel_rfl)) (fun _ _ _ h=>h) (Or.inl ⟨by rfl,?_⟩) ?_ ?_
                    rotate_left
                    ·intro w'
                     go_simp
                     with_reducible rfl
                    rotate_left
                    ·simp only [Act.put,aA,aB,aC,i64_w,i32_w]
                     rfl
                    refine pure_ (i:=10) (N:=some 58) (v:=?_) (a':=?_) #[true,true,true,true,true,true,true,true,true,false,true,false,false,false,false,false,false,false,false,false,false,false,false] rfl rfl (any_of HT_.out (by kernel_rfl)) (fun _ _ _ h=>h) (Or.inl ⟨by rfl,?_⟩) ?_ ?_
                    rotate_left
                    ·intro w'
                     go_simp
                     with_reducible rfl
                    rotate_left
                    ·simp only [Act.put,aA,aB,aC,i64_w,i32_w]
                     rfl
                    refine pure_ (i:=11) (N:=some 59) (v:=?_) (a':=?_) #[true,true,true,true,true,true,true,true,true,false,true,true,false,false,false,false,false,false,false,false,false,false,false] rfl rfl (any_of HT_.out (by kernel_rfl)) (fun _ _ _ h=>h) (Or.inl ⟨by rfl,?_⟩) ?_ ?_
                    rotate_left
                    ·intro w'
                     go_simp
                     with_reducible rfl
                    rotate_left
                    ·simp only [Act.put,aA,aB,aC,i64_w,i32_w]
                     rfl
                    refine pure_ (i:=12) (N:=some 60) (v:=?_) (a':=?_) #[true,true,true,true,true,true,true,true,true,false,true,true,true,false,false,false,false,false,false,false,false,false,false] rfl rfl (any_of HT_.out (by kernel_rfl)) (fun _ _ _ h=>h) (Or.inl ⟨by rfl,?_⟩) ?_ ?_
                    rotate_left
                    ·intro w'
                     go_simp
                     with_reducible rfl
                    rotate_left
                    ·simp only [Act.put,aA,aB,aC,i64_w,i32_w]
                     rfl
                    refine take_ (i:=9) (N:=some 57) (v:=?_) (a':=?_) #[true,true,true,true,true,true,true,true,true,true,true,true,true,false,false,false,false,false,false,false,false,false,false] rfl rfl (take_ofW HT_.out HW_.out (by kernel_rfl)) (fun _ _ _ h=>h) (Or.inl ⟨by rfl,?_⟩) hHeld ?_ ?_
                    rotate_left
                    ·rintro w' ⟨s0,s1,s2,s3⟩
                     go_simp
                     with_reducible rfl
                    rotate_left
                    ·simp only [Act.put,aA,aB,aC,i64_w,i32_w]
                     rfl
                    refine take_ (i:=13) (N:=some 61) (v:=?_) (a':=?_) #[true,true,true,true,true,true,true,true,true,true,true,true,true,true,false,false,false,false,false,false,false,false,false] rfl rfl (take_ofW HT_.out HW_.out (by kernel_rfl)) (fun _ _ _ h=>h) (Or.inl ⟨by rfl,?_⟩) hHeld ?_ ?_
                    rotate_left
                    ·rintro w' ⟨s0,s1,s2,s3⟩
                     go_simp
                     with_reducible rfl
                    rotate_left
                    ·simp only [Act.put,aA,aB,aC,i64_w,i32_w]
                     rfl
                    refine pure_ (i:=14) (N:=some 62) (v:=?_) (a':=?_) #[true,true,true,true,true,true,true,true,true,true,true,true,true,true,true,false,false,false,false,false,false,false,false] rfl rfl (any_of HT_.out (by kernel_rfl)) (fun _ _ _ h=>h) (Or.inl ⟨by rfl,?_⟩) ?_ ?_
                    rotate_left
                    ·intro w'
                     go_simp
                     with_reducible rfl
                    rotate_left
                    ·simp only [Act.put,aA,aB,aC,i64_w,i32_w]
                     rfl
                    refine pure_ (i:=15) (N:=some 63) (v:=?_) (a':=?_) #[true,true,true,true,true,true,true,true,true,true,true,true,true,true,true,true,false,false,false,false,false,false,false] rfl rfl (any_of HT_.out (by kernel_rfl)) (fun _ _ _ h=>h) (Or.inl ⟨by rfl,?_⟩) ?_ ?_
                    rotate_left
                    ·intro w'
                     go_simp
                     with_reducible rfl
                    rotate_left
                    ·simp only [Act.put,aA,aB,aC,i64_w,i32_w]
                     rfl
                    refine pure_ (i:=16) (N:=some 64) (v:=?_) (a':=?_) #[true,true,true,true,true,true,true,true,true,true,true,true,true,true,true,true,true,false,false,false,false,false,false] rfl rfl (any_of HT_.out (by kernel_rfl)) (fun _ _ _ h=>h) (Or.inl ⟨by rfl,?_⟩) ?_ ?_
                    rotate_left
                    ·intro w'
                     go_simp
                     with_reducible rfl
                    rotate_left
                    ·simp only [Act.put,aA,aB,aC,i64_w,i32_w]
                     rfl
                    refine pure_ (i:=17) (N:=some 65) (v:=?_) (a':=?_) #[true,true,true,true,true,true,true,true,true,true,true,true,true,true,true,true,true,true,false,false,false,false,false] rfl rfl (any_of HT_.out (by kernel_rfl)) (fun _ _ _ h=>h) (Or.inl ⟨by rfl,?_⟩) ?_ ?_
                    rotate_left
                    ·intro w'
                     go_simp
                     with_reducible rfl
                    rotate_left
                    ·simp only [Act.put,aA,aB,aC,i64_w,i32_w]
                     rfl
                    refine pure_ (i:=18) (N:=some 66) (v:=?_) (a':=?_) #[true,true,true,true,true,true,true,true,true,true,true,true,true,true,true,true,true,true,true,false,false,false,false] rfl rfl (any_of HT_.out (by kernel_rfl)) (fun _ _ _ h=>h) (Or.inl ⟨by rfl,?_⟩) ?_ ?_
                    rotate_left
                    ·intro w'
                     go_simp
                     with_reducible rfl
                    rotate_left
                    ·simp only [Act.put,aA,aB,aC,i64_w,i32_w]
                     rfl
                    refine pure_ (i:=19) (N:=some 67) (v:=?_) (a':=?_) #[true,true,true,true,true,true,true,true,true,true,true,true,true,true,true,true,true,true,true,true,false,false,false] rfl rfl (any_of HT_.out (by kernel_rfl)) (fun _ _ _ h=>h) (Or.inl ⟨by rfl,?_⟩) ?_ ?_
                    rotate_left
                    ·intro w'
                     go_simp
                     with_reducible rfl
                    rotate_left
                    ·simp only [Act.put,aA,aB,aC,i64_w,i32_w]
                     rfl
                    refine take_ (i:=20) (N:=some 68) (v:=?_) (a':=?_) #[true,true,true,true,true,true,true,true,true,true,true,true,true,true,true,true,true,true,true,true,true,false,false] rfl rfl (take_ofW HT_.out HW_.out (by kernel_rfl)) (fun _ _ _ h=>h) (Or.inl ⟨by rfl,?_⟩) hHeld ?_ ?_
                    rotate_left
                    ·rintro w' ⟨s0,s1,s2,s3⟩
                     go_simp
                     with_reducible rfl
                    rotate_left
                    ·simp only [Act.put,aA,aB,aC,i64_w,i32_w]
                     rfl
                    refine pure_ (i:=21) (N:=some 69) (v:=?_) (a':=?_) #[true,true,true,true,true,true,true,true,true,true,true,true,true,true,true,true,true,true,true,true,true,true,false] rfl rfl (any_of HT_.out (by kernel_rfl)) (fun _ _ _ h=>h) (Or.inl ⟨by rfl,?_⟩) ?_ ?_
                    rotate_left
                    ·intro w'
                     go_simp
                     with_reducible rfl
                    rotate_left
                    ·simp only [Act.put,aA,aB,aC,i64_w,i32_w]
                     rfl
                    refine pure_ (i:=22) (N:=some 70) (v:=?_) (a':=?_) #[true,true,true,true,true,true,true,true,true,true,true,true,true,true,true,true,true,true,true,true,true,true,true] rfl rfl (any_of HT_.out (by kernel_rfl)) (fun _ _ _ h=>h) (Or.inl ⟨by rfl,?_⟩) ?_ ?_
                    rotate_left
                    ·intro w'
                     go_simp
                     with_reducible rfl
                    rotate_left
                    ·simp only [Act.put,aA,aB,aC,i64_w,i32_w]
                     rfl
                    refine done_ (done_of HT_.out (by kernel_rfl)) ?_;have p44:0≤(x13_3:Int):=of_decide_eq_true (by first|(with_reducible assumption)|assumption);have q44:(x13_3:Int)<((x9_3.length:Int):Int):=of_decide_eq_true (by first|(with_reducible assumption)|assumption);obtain ⟨go44,co44,eo44,gb44,gl44,cl44,HG44⟩:=Kd.R_form HO_9.out (by omega)
                    (first|cases eo44|(injection eo44 with ea_ en_ ec_;(first|subst ea_|(injection ea_ with ea_;subst ea_));subst ec_;clear en_))
                    have GB44:=aM gb44;have GG44:=aM HG44;clear gb44 gl44 HG44
                    (first|simp only [add_plain] at hx110_0|skip)
                    obtain ⟨hx44_0,hf44_0⟩:=Kd.R_celln false HO_9.out (x13_3:Int) p44 q44;replace p44:=eq_true p44;replace q44:=eq_true q44;obtain ⟨hy48_,hz48_⟩:=Kd.R_celln false HO_9.out (x13_3:Int) (of_decide_eq_true (by first|(with_reducible assumption)|assumption)) (of_decide_eq_true (by first|(with_reducible assumption)|assumption));have HP48:=Kd.R_putg HO_9.out (x13_3:Int) true
                    try go_wp2_with (first|((with_reducible refine gate_store (t:=4) (p:=73) rfl ?_);refine store_event (t:=4) (p:=73) (v:=?vo_w49) (w1:=(w46.setCell ⟨go44,(x13_3:Int).toNat,none⟩ (.bool true))) ?hg ?ho ?hn ?hr ?_;(case ho=>rfl);(case hg=>rfl);(case hn=>rfl);(case hr=>first|(go_simp;done)|(go_simp;rfl));intro w49 hw;have hg:w46.grownBy w49 (some go44):=(by rw [hw];exact HP48.2);have hp_:Kd.R Kd.bool 4 w49 w.heap.size (fun _=>True) (.slice (some ⟨go44,0,none⟩) x9_3.length co47) y111:=(by rw [hw,Ny111.out];exact HP48.1);clear HP48;have n0_:=aM (hp_);have n1_:=aM ((by rw [hw];exact Qg (HB.out) GB44.out:Below w.heap.size w w49));clear HO_9;clear HB;have HO_9:=n0_;have HB:=n1_;clear n0_ n1_;clear hg hw hp_;have p112:0≤(x13_3:Int):=of_decide_eq_true (by first|(with_reducible assumption)|assumption);have q112:x13_3<(l0.length:Int):=of_decide_eq_true (by first|(with_reducible assumption)|assumption);obtain ⟨ad112,e112,hx112_0⟩:=Kd.at_int HR0.out x13_3 p112 q112;obtain rfl:ad107=ad112:=(by injection e112);replace hx112_0:=(HB.out.cell (aI w _ hx112_0)).trans hx112_0;replace p112:=eq_true p112;replace q112:=eq_true q112)|((with_reducible refine Qh (f:=187) rfl ?_);refine goesL_ (some 79) rfl rfl Try.func187 (by kernel_rfl) rfl #[.slice (some ad109) l1.length c1,.int .i64 (rd l0 x13_3)] rfl (by (try simp only [aD,aE,aF]);first|done|rfl|(simp only [aG,aH];rfl)) ?_;(with_reducible refine (slices_Index_int_int.calls k3 _ _ l1 (rd l0 x13_3) t113 _ ?side1 ?side2 A45.out).mono ?_);(case side1=>repeat (first|exact (Kd.C_below HR1.out HB.out)|(with_reducible refine Kd.C_alloc ?_ _)|(with_reducible refine Kd.C_drewN ?_ _)|(with_reducible refine Kd.C_drew ?_)));(case side2=>exact HC1.out);rintro e w' ⟨rfl,⟨nd,rfl⟩⟩;refine ⟨_,rfl,?_⟩))
                    go_roundg k3
                    case measure=>have:=HK1.out;have:=HK2.out;have:=HK3.out;omega
                    case rel=>exact ⟨(y111),(t113),(wrap64 (x14_3+1)),(by first|rfl|(simp;done)|(simp [*];done)),(by first|rfl|(simp;done)|(simp [*];done)),H',⟨by have:=HK1.out;have:=HK2.out;have:=HK3.out;omega⟩,⟨by (with_reducible repeat (first|apply Kd.Qe|apply Kd.Qd|apply Kd.R_drew));exact HO_9.out⟩,⟨by repeat (first|(with_reducible first|exact HB.out|apply Qc|apply Qa|apply Qb)|exact HB.out)⟩⟩
                  ·rw [if_neg c33] at H;exact absurd H (by simp)
                ·rw [if_neg c26] at H;exact absurd H (by simp)
              ·rw [if_neg c19] at H;exact absurd H (by simp)
             ·rw [if_neg c18] at H;exact absurd H (by simp)
          ·rw [if_neg c17] at H;have c17b0:decide (x44_2<(l0.length:Int))=false:=decide_eq_false c17;clear c17;simp only [Option.some.injEq,Prod.mk.injEq] at H;obtain ⟨rfl,rfl,rfl⟩:=H;go_wp2
           go_ret3
           exact ⟨by first|rfl|(simp [errW_none,errW_some] <;> rfl)|(simp [*,errW_none,errW_some] <;> rfl),by repeat (first|(with_reducible first|exact HB.out|apply Qc|apply Qa|apply Qb)|exact HB.out)⟩
    ·rw [if_neg c6] at H;exact absurd H (by simp)
   ·rw [if_neg c5] at H;exact absurd H (by simp)
  ·replace c4:=Bool.eq_false_iff.mpr c4;subst c4;have H1:(some (0,0,false))=some (r1,r2,r3):=by rw [if_neg (show ¬ (false=true) by decide)] at H;exact H
   clear H;have H:=H1;clear H1;simp only [Option.some.injEq,Prod.mk.injEq] at H;obtain ⟨rfl,rfl,rfl⟩:=H;go_enter Try.func51,Try.ntmps51;go_wp2_with (first|((with_reducible refine Qh (f:=186) rfl ?_);refine goesL_ (some 17) rfl rfl Try.func186 (by kernel_rfl) rfl #[.slice A0 l0.length c0,.slice A1 l1.length c1] rfl (by (try simp only [aD,aE,aF]);first|done|rfl|(simp only [aG,aH];rfl)) ?_;(with_reducible refine (impl_areAlike.calls k _ _ l0 _ _ l1 false _ ?side1 ?side2 ?side3 ?side4 A3.out).mono ?_);(case side1=>repeat (first|exact HR0.out|(with_reducible refine Kd.C_alloc ?_ _)|(with_reducible refine Kd.C_drewN ?_ _)|(with_reducible refine Kd.C_drew ?_)));(case side2=>exact HC0.out);(case side3=>repeat (first|exact HR1.out|(with_reducible refine Kd.C_alloc ?_ _)|(with_reducible refine Kd.C_drewN ?_ _)|(with_reducible refine Kd.C_drew ?_)));(case side4=>exact HC1.out);rintro e w50 ⟨rfl,hb⟩;refine ⟨_,rfl,?_⟩;have n0_:=aM (below_step (by repeat (first|(with_reducible first|exact HB.out|apply Qc|apply Qa|apply Qb)|exact HB.out)) hb);clear HB;have HB:=n0_;clear n0_;(try clear hb);(try clear hb2);(try clear hk);(try clear hi)))
   go_ret3
   exact ⟨by first|rfl|(simp [errW_none,errW_some] <;> rfl)|(simp [*,errW_none,errW_some] <;> rfl),by repeat (first|(with_reducible first|exact HB.out|apply Qc|apply Qa|apply Qb)|exact HB.out)⟩

def spec_l1Has.l0:Nat→Int→List Int→Int→Int→Option (Bool)
  |0,_,_,_,_=>none
  |k+1,x1,x7,x8,x9=>if x9<x8 then (if 0≤x9 then (if x9<(x7.length:Int) then (if (rd x7 x9)=x1 then (some true) else (spec_l1Has.l0 k x1 x7 x8 (wrap64 (x9+1)))) else (none)) else (none)) else (some false)
def spec_l1Has.f (k:Nat) (l0:List Int) (a1:Int):Option (Bool):=spec_l1Has.l0 k a1 l0 (l0.length:Int) 0
set_option maxHeartbeats 8000000 in
set_option maxRecDepth 100000 in
theorem spec_l1Has.calls (k:Nat) (A0:Option Addr) (c0:Nat) (l0:List Int) (a1:Int) (r:Bool) (w:World) (hr0:Kd.C (Kd.int .i64) w A0 l0.length l0) (hc0:l0.length≤c0) (h:spec_l1Has.f k l0 a1=some r) :
    Calls Try.prog 153 #[.slice A0 l0.length c0,.int .i64 a1] w fun e w'=>e= .returned (.bool r)∧Drawn0 w w':=by
  have HR0:=aM hr0;have HC0:=aM hc0;clear hr0 hc0;have H:(spec_l1Has.l0 k a1 l0 (l0.length:Int) 0)=some r:=h;clear h;have H':=aM H;clear H;go_enter Try.func153,Try.ntmps153;go_wp2;go_loopg [9] k (fun kq v9 w'=>∃ (x9_1:Int),v9= .int .i64 x9_1∧Aside0 (spec_l1Has.l0 kq a1 l0 (l0.length:Int) x9_1=some r)∧Aside0 (kq≤k)∧Drawn0 w w')
  case atStart=>exact ⟨(0),(by first|rfl|(simp;done)|(simp [*];done)),H',⟨Nat.le_refl _⟩,by repeat (first|exact Drawn0.refl _|apply Drawn0.step)⟩
  case round=>
   clear H';(try clear c1);(try clear p2);obtain ⟨x9_1,rfl,HA,HK1,⟨m1,rfl⟩⟩:=hrel
   cases gk with
   |zero=>exact absurd HA.out (by simp [spec_l1Has.l0])
   |succ k1=>
    have H:=HA.out;clear HA;simp only [spec_l1Has.l0] at H;by_cases c3:x9_1<(l0.length:Int)
    ·rw [if_pos c3] at H;have c3b0:decide (x9_1<(l0.length:Int))=true:=decide_eq_true c3;clear c3;by_cases c4:0≤x9_1
     ·rw [if_pos c4] at H;have c4b0:decide (0≤x9_1)=true:=decide_eq_true c4;clear c4;by_cases c5:x9_1<(l0.length:Int)
      ·rw [if_pos c5] at H;have c5b0:decide (x9_1<(l0.length:Int))=true:=decide_eq_true c5;clear c5;by_cases c6:(rd l0 x9_1)=a1
       ·rw [if_pos c6] at H;have c6b0:((rd l0 x9_1) == a1)=true:=beq_iff_eq.mpr c6;have c6b1:((rd l0 x9_1) != a1)=false:=bne_eq_false_iff_eq.mpr c6;clear c6;obtain rfl:=Option.some.inj H;have p101:0≤(x9_1:Int):=of_decide_eq_true (by first|(with_reducible assumption)|assumption);have q101:x9_1<(l0.length:Int):=of_decide_eq_true (by first|(with_reducible assumption)|assumption);obtain ⟨ad101,e101,hx101_0⟩:=Kd.at_int HR0.out x9_1 p101 q101
        cases e101
        replace p101:=eq_true p101;replace q101:=eq_true q101;go_wp2
        go_ret
        exact ⟨by first|rfl|(simp;done)|(simp [*];done),by repeat (first|exact Drawn0.refl _|apply Drawn0.step)⟩
       ·rw [if_neg c6] at H;have c6b0:((rd l0 x9_1) == a1)=false:=beq_eq_false_iff_ne.mpr c6;have c6b1:((rd l0 x9_1) != a1)=true:=bne_iff_ne.mpr c6;have H':=aM H;clear H;have p101:0≤(x9_1:Int):=of_decide_eq_true (by first|(with_reducible assumption)|assumption);have q101:x9_1<(l0.length:Int):=of_decide_eq_true (by first|(with_reducible assumption)|assumption);obtain ⟨ad101,e101,hx101_0⟩:=Kd.at_int HR0.out x9_1 p101 q101
        cases e101
        replace p101:=eq_true p101;replace q101:=eq_true q101;go_wp2;go_roundg k1
        case measure=>have:=HK1.out;omega
        case rel=>exact ⟨(wrap64 (x9_1+1)),(by first|rfl|(simp;done)|(simp [*];done)),H',⟨by have:=HK1.out;omega⟩,by repeat (first|exact Drawn0.refl _|apply Drawn0.step)⟩
      ·rw [if_neg c5] at H;exact absurd H (by simp)
     ·rw [if_neg c4] at H;exact absurd H (by simp)
    ·rw [if_neg c3] at H;have c3b0:decide (x9_1<(l0.length:Int))=false:=decide_eq_false c3;clear c3;obtain rfl:=Option.some.inj H;go_wp2
     go_ret
     exact ⟨by first|rfl|(simp;done)|(simp [*];done),by repeat (first|exact Drawn0.refl _|apply Drawn0.step)⟩

def spec_l1In.f (a0:Int) (a1:Int) (a2:Int):Option (Bool):=if a0 ≥ a1 then (some (decide (a0≤a2))) else (some false)
set_option maxHeartbeats 8000000 in
set_option maxRecDepth 100000 in
theorem spec_l1In.calls (a0:Int) (a1:Int) (a2:Int) (r:Bool) (w:World) (h:spec_l1In.f a0 a1 a2=some r) :
    Calls Try.prog 170 #[.int .i64 a0,.int .i64 a1,.int .i64 a2] w fun e w'=>e= .returned (.bool r)∧Drawn0 w w':=by
  have H:(if a0 ≥ a1 then (some (decide (a0≤a2))) else (some false))=some r:=h;clear h;by_cases c4:a0 ≥ a1
  ·rw [if_pos c4] at H;have c4b0:decide (a1≤a0)=true:=decide_eq_true c4;clear c4;obtain rfl:=Option.some.inj H;go_enter Try.func170,Try.ntmps170;go_wp2
   go_ret
   exact ⟨by first|rfl|(simp;done)|(simp [*];done),by repeat (first|exact Drawn0.refl _|apply Drawn0.step)⟩
  ·rw [if_neg c4] at H;have c4b0:decide (a1≤a0)=false:=decide_eq_false c4;clear c4;obtain rfl:=Option.some.inj H;go_enter Try.func170,Try.ntmps170;go_wp2
   go_ret
   exact ⟨by first|rfl|(simp;done)|(simp [*];done),by repeat (first|exact Drawn0.refl _|apply Drawn0.step)⟩

def spec_l1All.l0:Nat→Int→Int→List Int→Int→Int→Option (Bool)
  |0,_,_,_,_,_=>none
  |k+1,x1,x2,x9,x10,x11=>if x11<x10 then (if 0≤x11 then (if x11<(x9.length:Int) then ((spec_l1In.f (rd x9 x11) x1 x2).bind fun t102=>(if t102=true then (spec_l1All.l0 k x1 x2 x9 x10 (wrap64 (x11+1))) else (some false))) else (none)) else (none)) else (some true)
def spec_l1All.f (k:Nat) (l0:List Int) (a1:Int) (a2:Int):Option (Bool):=spec_l1All.l0 k a1 a2 l0 (l0.length:Int) 0
set_option maxHeartbeats 8000000 in
set_option maxRecDepth 100000 in
theorem spec_l1All.calls (k:Nat) (A0:Option Addr) (c0:Nat) (l0:List Int) (a1:Int) (a2:Int) (r:Bool) (w:World) (hr0:Kd.C (Kd.int .i64) w A0 l0.length l0) (hc0:l0.length≤c0) (h:spec_l1All.f k l0 a1 a2=some r) :
    Calls Try.prog 168 #[.slice A0 l0.length c0,.int .i64 a1,.int .i64 a2] w fun e w'=>e= .returned (.bool r)∧Drawn0 w w':=by
  have HR0:=aM hr0;have HC0:=aM hc0;clear hr0 hc0;have H:(spec_l1All.l0 k a1 a2 l0 (l0.length:Int) 0)=some r:=h;clear h;have H':=aM H;clear H;go_enter Try.func168,Try.ntmps168;go_wp2;go_loopg [11] k (fun kq v11 w'=>∃ (x11_1:Int),v11= .int .i64 x11_1∧Aside0 (spec_l1All.l0 kq a1 a2 l0 (l0.length:Int) x11_1=some r)∧Aside0 (kq≤k)∧Drawn0 w w')
  case atStart=>exact ⟨(0),(by first|rfl|(simp;done)|(simp [*];done)),H',⟨Nat.le_refl _⟩,by repeat (first|exact Drawn0.refl _|apply Drawn0.step)⟩
  case round=>
   clear H';(try clear c1);(try clear p2);obtain ⟨x11_1,rfl,HA,HK1,⟨m1,rfl⟩⟩:=hrel
   cases gk with
   |zero=>exact absurd HA.out (by simp [spec_l1All.l0])
   |succ k1=>
    have H:=HA.out;clear HA;simp only [spec_l1All.l0] at H;by_cases c4:x11_1<(l0.length:Int)
    ·rw [if_pos c4] at H;have c4b0:decide (x11_1<(l0.length:Int))=true:=decide_eq_true c4;clear c4;by_cases c5:0≤x11_1
     ·rw [if_pos c5] at H;have c5b0:decide (0≤x11_1)=true:=decide_eq_true c5;clear c5;by_cases c6:x11_1<(l0.length:Int)
      ·rw [if_pos c6] at H;have c6b0:decide (x11_1<(l0.length:Int))=true:=decide_eq_true c6;clear c6;replace H:=Option.bind_eq_some_iff.mp H;obtain ⟨t102,A70,H⟩:=H;replace H:(if t102=true then (spec_l1All.l0 k1 a1 a2 l0 (l0.length:Int) (wrap64 (x11_1+1))) else (some false))=some r:=H;have A7:=aM A70;clear A70;by_cases c8:t102=true
       ·subst c8;have H1:(spec_l1All.l0 k1 a1 a2 l0 (l0.length:Int) (wrap64 (x11_1+1)))=some r:=by rw [if_pos rfl] at H;exact H
        clear H;have H:=H1;clear H1;have H':=aM H;clear H;have p101:0≤(x11_1:Int):=of_decide_eq_true (by first|(with_reducible assumption)|assumption);have q101:x11_1<(l0.length:Int):=of_decide_eq_true (by first|(with_reducible assumption)|assumption);obtain ⟨ad101,e101,hx101_0⟩:=Kd.at_int HR0.out x11_1 p101 q101
        cases e101
        replace p101:=eq_true p101;replace q101:=eq_true q101;go_wp2_with (first|((with_reducible refine Qh (f:=170) rfl ?_);refine goesL_ (some 18) rfl rfl Try.func170 (by kernel_rfl) rfl #[.int .i64 (rd l0 x11_1),.int .i64 a1,.int .i64 a2] rfl (by (try simp only [aD,aE,aF]);first|done|rfl|(simp only [aG,aH];rfl)) ?_;(with_reducible refine (spec_l1In.calls (rd l0 x11_1) a1 a2 true _ A7.out).mono ?_);rintro e w' ⟨rfl,⟨nd,rfl⟩⟩;refine ⟨_,rfl,?_⟩))
        go_roundg k1
        case measure=>have:=HK1.out;omega
        case rel=>exact ⟨(wrap64 (x11_1+1)),(by first|rfl|(simp;done)|(simp [*];done)),H',⟨by have:=HK1.out;omega⟩,by repeat (first|exact Drawn0.refl _|apply Drawn0.step)⟩
       ·replace c8:=Bool.eq_false_iff.mpr c8;subst c8;have H1:(some false)=some r:=by rw [if_neg (show ¬ (false=true) by decide)] at H;exact H
        clear H;have H:=H1;clear H1;obtain rfl:=Option.some.inj H;have p101:0≤(x11_1:Int):=of_decide_eq_true (by first|(with_reducible assumption)|assumption);have q101:x11_1<(l0.length:Int):=of_decide_eq_true (by first|(with_reducible assumption)|assumption);obtain ⟨ad101,e101,hx101_0⟩:=Kd.at_int HR0.out x11_1 p101 q101
        cases e101
        replace p101:=eq_true p101;replace q101:=eq_true q101;go_wp2_with (first|((with_reducible refine Qh (f:=170) rfl ?_);refine goesL_ (some 18) rfl rfl Try.func170 (by kernel_rfl) rfl #[.int .i64 (rd l0 x11_1),.int .i64 a1,.int .i64 a2] rfl (by (try simp only [aD,aE,aF]);first|done|rfl|(simp only [aG,aH];rfl)) ?_;(with_reducible refine (spec_l1In.calls (rd l0 x11_1) a1 a2 false _ A7.out).mono ?_);rintro e w' ⟨rfl,⟨nd,rfl⟩⟩;refine ⟨_,rfl,?_⟩))
        go_ret
        exact ⟨by first|rfl|(simp;done)|(simp [*];done),by repeat (first|exact Drawn0.refl _|apply Drawn0.step)⟩
      ·rw [if_neg c6] at H;exact absurd H (by simp)
     ·rw [if_neg c5] at H;exact absurd H (by simp)
    ·rw [if_neg c4] at H;have c4b0:decide (x11_1<(l0.length:Int))=false:=decide_eq_false c4;clear c4;obtain rfl:=Option.some.inj H;go_wp2
     go_ret
     exact ⟨by first|rfl|(simp;done)|(simp [*];done),by repeat (first|exact Drawn0.refl _|apply Drawn0.step)⟩

mutual
def spec_GoodSpots.j0:Nat→List Int→Bool→Option (Bool)
  |0,_,_=>none
  |k+1,x0,x18=>if x18=true then (some false) else (spec_GoodSpots.l0 k x0 x0 (x0.length:Int) 0)
def spec_GoodSpots.l0:Nat→List Int→List Int→Int→Int→Option (Bool)
  |0,_,_,_,_=>none
  |k+1,x0,x19,x20,x21=>if x21<x20 then (if 0≤x21 then (if x21<(x19.length:Int) then (if (rd x19 x21) > 0 then (if x21≤(x0.length:Int) then ((spec_l1Has.f k (x0.take (x21:Int).toNat) (rd x19 x21)).bind fun t106=>(if t106=true then (some false) else (spec_GoodSpots.l0 k x0 x19 x20 (wrap64 (x21+1))))) else (none)) else (spec_GoodSpots.l0 k x0 x19 x20 (wrap64 (x21+1)))) else (none)) else (none)) else (some true)
end
def spec_GoodSpots.f (k:Nat) (l0:List Int):Option (Bool):=(spec_l1In.f (l0.length:Int) 2 9).bind fun t101=>(if t101=true then ((spec_l1Has.f k l0 0).bind fun t102=>(if t102=true then ((spec_l1All.f k l0 0 20).bind fun t103=>(spec_GoodSpots.j0 k l0 (!t103))) else (spec_GoodSpots.j0 k l0 true))) else (spec_GoodSpots.j0 k l0 true))
set_option maxHeartbeats 8000000 in
set_option maxRecDepth 100000 in
theorem spec_GoodSpots.calls (k:Nat) (A0:Option Addr) (c0:Nat) (l0:List Int) (r:Bool) (w:World) (hr0:Kd.C (Kd.int .i64) w A0 l0.length l0) (hc0:l0.length≤c0) (h:spec_GoodSpots.f k l0=some r) :
    Calls Try.prog 114 #[.slice A0 l0.length c0] w fun e w'=>e= .returned (.bool r)∧Drawn0 w w':=by
  have HR0:=aM hr0;have HC0:=aM hc0;clear hr0 hc0;have H:((spec_l1In.f (l0.length:Int) 2 9).bind fun t101=>(if t101=true then ((spec_l1Has.f k l0 0).bind fun t102=>(if t102=true then ((spec_l1All.f k l0 0 20).bind fun t103=>(spec_GoodSpots.j0 k l0 (!t103))) else (spec_GoodSpots.j0 k l0 true))) else (spec_GoodSpots.j0 k l0 true)))=some r:=h;clear h;have HC2:=aM H;clear H;go_enter Try.func114,Try.ntmps114
  go_upto_region 1 with (fail)
  go_cut [18] (fun v18 wc=>∃ (kq:Nat) (x18_1:Bool),v18= .bool x18_1∧Aside0 (spec_GoodSpots.j0 kq l0 x18_1=some r)∧Aside0 (kq≤k)∧Drawn0 w wc)
  case first=>
   have H:=HC2.out;clear HC2;replace H:=Option.bind_eq_some_iff.mp H;obtain ⟨t101,A30,H⟩:=H;replace H:(if t101=true then ((spec_l1Has.f k l0 0).bind fun t102=>(if t102=true then ((spec_l1All.f k l0 0 20).bind fun t103=>(spec_GoodSpots.j0 k l0 (!t103))) else (spec_GoodSpots.j0 k l0 true))) else (spec_GoodSpots.j0 k l0 true))=some r:=H;have A3:=aM A30;clear A30;by_cases c4:t101=true
   ·subst c4;have H1:((spec_l1Has.f k l0 0).bind fun t102=>(if t102=true then ((spec_l1All.f k l0 0 20).bind fun t103=>(spec_GoodSpots.j0 k l0 (!t103))) else (spec_GoodSpots.j0 k l0 true)))=some r:=by rw [if_pos rfl] at H;exact H
    clear H;have H:=H1;clear H1;replace H:=Option.bind_eq_some_iff.mp H;obtain ⟨t102,A50,H⟩:=H;replace H:(if t102=true then ((spec_l1All.f k l0 0 20).bind fun t103=>(spec_GoodSpots.j0 k l0 (!t103))) else (spec_GoodSpots.j0 k l0 true))=some r:=H;have A5:=aM A50;clear A50;by_cases c6:t102=true
    ·subst c6;have H1:((spec_l1All.f k l0 0 20).bind fun t103=>(spec_GoodSpots.j0 k l0 (!t103)))=some r:=by rw [if_pos rfl] at H;exact H
     clear H;have H:=H1;clear H1;replace H:=Option.bind_eq_some_iff.mp H;obtain ⟨t103,A70,H⟩:=H;replace H:(spec_GoodSpots.j0 k l0 (!t103))=some r:=H;have A7:=aM A70;clear A70;have H':=aM H;clear H;go_wp2_with (first|((with_reducible refine Qh (f:=170) rfl ?_);refine goesL_ (some 7) rfl rfl Try.func170 (by kernel_rfl) rfl #[.int .i64 (l0.length:Int),.int .i64 2,.int .i64 9] rfl (by (try simp only [aD,aE,aF]);first|done|rfl|(simp only [aG,aH];rfl)) ?_;(with_reducible refine (spec_l1In.calls (l0.length:Int) 2 9 true _ A3.out).mono ?_);rintro e w' ⟨rfl,⟨nd,rfl⟩⟩;refine ⟨_,rfl,?_⟩)|(go_at_call 153;(with_reducible refine (spec_l1Has.calls k _ _ l0 0 true _ ?side1 ?side2 A5.out).mono ?_);(case side1=>repeat (first|exact HR0.out|(with_reducible refine Kd.C_alloc ?_ _)|(with_reducible refine Kd.C_drewN ?_ _)|(with_reducible refine Kd.C_drew ?_)));(case side2=>exact HC0.out);rintro e w' ⟨rfl,⟨nd,rfl⟩⟩)|(go_at_call 168;(with_reducible refine (spec_l1All.calls k _ _ l0 0 20 t103 _ ?side1 ?side2 A7.out).mono ?_);(case side1=>repeat (first|exact HR0.out|(with_reducible refine Kd.C_alloc ?_ _)|(with_reducible refine Kd.C_drewN ?_ _)|(with_reducible refine Kd.C_drew ?_)));(case side2=>exact HC0.out);rintro e w' ⟨rfl,⟨nd,rfl⟩⟩))
     go_meet
     case rel=>exact ⟨_,(!t103),(by first|rfl|(simp;done)|(simp [*];done)),H',⟨by first|omega|exact Nat.le_refl _⟩,by repeat (first|exact Drawn0.refl _|apply Drawn0.step)⟩
    ·replace c6:=Bool.eq_false_iff.mpr c6;subst c6;have H1:(spec_GoodSpots.j0 k l0 true)=some r:=by rw [if_neg (show ¬ (false=true) by decide)] at H;exact H
     clear H;have H:=H1;clear H1;have H':=aM H;clear H;go_wp2_with (first|((with_reducible refine Qh (f:=170) rfl ?_);refine goesL_ (some 7) rfl rfl Try.func170 (by kernel_rfl) rfl #[.int .i64 (l0.length:Int),.int .i64 2,.int .i64 9] rfl (by (try simp only [aD,aE,aF]);first|done|rfl|(simp only [aG,aH];rfl)) ?_;(with_reducible refine (spec_l1In.calls (l0.length:Int) 2 9 true _ A3.out).mono ?_);rintro e w' ⟨rfl,⟨nd,rfl⟩⟩;refine ⟨_,rfl,?_⟩)|(go_at_call 153;(with_reducible refine (spec_l1Has.calls k _ _ l0 0 false _ ?side1 ?side2 A5.out).mono ?_);(case side1=>repeat (first|exact HR0.out|(with_reducible refine Kd.C_alloc ?_ _)|(with_reducible refine Kd.C_drewN ?_ _)|(with_reducible refine Kd.C_drew ?_)));(case side2=>exact HC0.out);rintro e w' ⟨rfl,⟨nd,rfl⟩⟩))
     go_meet
     case rel=>exact ⟨_,(true),(by first|rfl|(simp;done)|(simp [*];done)),H',⟨by first|omega|exact Nat.le_refl _⟩,by repeat (first|exact Drawn0.refl _|apply Drawn0.step)⟩
   ·replace c4:=Bool.eq_false_iff.mpr c4;subst c4;have H1:(spec_GoodSpots.j0 k l0 true)=some r:=by rw [if_neg (show ¬ (false=true) by decide)] at H;exact H
    clear H;have H:=H1;clear H1;have H':=aM H;clear H;go_wp2_with (first|((with_reducible refine Qh (f:=170) rfl ?_);refine goesL_ (some 7) rfl rfl Try.func170 (by kernel_rfl) rfl #[.int .i64 (l0.length:Int),.int .i64 2,.int .i64 9] rfl (by (try simp only [aD,aE,aF]);first|done|rfl|(simp only [aG,aH];rfl)) ?_;(with_reducible refine (spec_l1In.calls (l0.length:Int) 2 9 false _ A3.out).mono ?_);rintro e w' ⟨rfl,⟨nd,rfl⟩⟩;refine ⟨_,rfl,?_⟩))
    go_meet
    case rel=>exact ⟨_,(true),(by first|rfl|(simp;done)|(simp [*];done)),H',⟨by first|omega|exact Nat.le_refl _⟩,by repeat (first|exact Drawn0.refl _|apply Drawn0.step)⟩
  case rest=>
   clear HC2;(try clear c1);(try clear p2);(try clear c4);(try clear c6);obtain ⟨kq,x18_1,rfl,HA,HJ1,⟨mc1,rfl⟩⟩:=hcut
   cases kq with
   |zero=>exact absurd HA.out (by simp [spec_GoodSpots.j0])
   |succ kj1=>
    have H:=HA.out;clear HA;simp only [spec_GoodSpots.j0] at H;by_cases c8:x18_1=true
    ·subst c8;have H1:(some false)=some r:=by rw [if_pos rfl] at H;exact H
     clear H;have H:=H1;clear H1;obtain rfl:=Option.some.inj H;go_wp2
     go_ret
     exact ⟨by first|rfl|(simp;done)|(simp [*];done),by repeat (first|exact Drawn0.refl _|apply Drawn0.step)⟩
    ·replace c8:=Bool.eq_false_iff.mpr c8;subst c8;have H1:(spec_GoodSpots.l0 kj1 l0 l0 (l0.length:Int) 0)=some r:=by rw [if_neg (show ¬ (false=true) by decide)] at H;exact H
     clear H;have H:=H1;clear H1;have H':=aM H;clear H;go_wp2;go_loopg [21] kj1 (fun kq v21 w'=>∃ (x21_2:Int),v21= .int .i64 x21_2∧Aside0 (spec_GoodSpots.l0 kq l0 l0 (l0.length:Int) x21_2=some r)∧Aside0 (kq≤kj1)∧Drawn0 w w')
     case atStart=>exact ⟨(0),(by first|rfl|(simp;done)|(simp [*];done)),H',⟨Nat.le_refl _⟩,by repeat (first|exact Drawn0.refl _|apply Drawn0.step)⟩
     case round=>
      clear H';(try clear c1);(try clear p2);(try clear c4);(try clear c6);(try clear c8);(try clear p2);obtain ⟨x21_2,rfl,HA,HK2,⟨m2,rfl⟩⟩:=hrel
      cases gk with
      |zero=>exact absurd HA.out (by simp [spec_GoodSpots.l0])
      |succ k2=>
       have H:=HA.out;clear HA;simp only [spec_GoodSpots.l0] at H;by_cases c9:x21_2<(l0.length:Int)
       ·rw [if_pos c9] at H;have c9b0:decide (x21_2<(l0.length:Int))=true:=decide_eq_true c9;clear c9;by_cases c10:0≤x21_2
        ·rw [if_pos c10] at H;have c10b0:decide (0≤x21_2)=true:=decide_eq_true c10;clear c10;by_cases c11:x21_2<(l0.length:Int)
         ·rw [if_pos c11] at H;have c11b0:decide (x21_2<(l0.length:Int))=true:=decide_eq_true c11;clear c11;by_cases c12:(rd l0 x21_2) > 0
          ·rw [if_pos c12] at H;have c12b0:decide (0<(rd l0 x21_2))=true:=decide_eq_true c12;clear c12;have c13b0:=eq_true (of_decide_eq_true (by first|(with_reducible assumption)|assumption):0≤x21_2);by_cases c14:x21_2≤(l0.length:Int)
           ·rw [if_pos c14] at H;have c14b0:=eq_true c14;have c14b1:decide (x21_2≤(l0.length:Int))=true:=decide_eq_true c14;clear c14;replace H:=Option.bind_eq_some_iff.mp H;obtain ⟨t106,A150,H⟩:=H;replace H:(if t106=true then (some false) else (spec_GoodSpots.l0 k2 l0 l0 (l0.length:Int) (wrap64 (x21_2+1))))=some r:=H;have A15:=aM A150;clear A150;by_cases c16:t106=true
            ·subst c16;have H1:(some false)=some r:=by rw [if_pos rfl] at H;exact H
             clear H;have H:=H1;clear H1;obtain rfl:=Option.some.inj H;have p104:0≤(x21_2:Int):=of_decide_eq_true (by first|(with_reducible assumption)|assumption);have q104:x21_2<(l0.length:Int):=of_decide_eq_true (by first|(with_reducible assumption)|assumption);obtain ⟨ad104,e104,hx104_0⟩:=Kd.at_int HR0.out x21_2 p104 q104
             cases e104
             replace p104:=eq_true p104;replace q104:=eq_true q104;obtain ⟨i017,hi017,_,hsz17,_⟩:=info_parts info3;obtain ⟨hcut17,hA17,hC17⟩:=print_take_of (P:=Try.prog) (Value.int .i64) 0 34 3 .i64 Try.underlying34 hi017 hsz17 (some ad104) c0 l0 x21_2 (of_decide_eq_true (by first|(with_reducible assumption)|assumption)) (of_decide_eq_true (by first|(with_reducible assumption)|assumption)) HC0.out;have HR105:=aM (Kd.C_of_reads (h1:=fun _=>rfl) (hA17 _ (Kd.reads_of_C HR0.out)));have HC105:=aM hC17;clear hA17 hC17 hi017 hsz17;go_wp2_with (first|(go_at_call 153;refine calls_of_args (args':=#[.slice (some ad104) (l0.take (x21_2:Int).toNat).length c0,.int .i64 (rd l0 x21_2)]) (by first|(rw [show (l0.take (x21_2:Int).toNat).length=x21_2.toNat from (by rw [aH];have h_:(x21_2:Int)≤(l0.length:Int):=of_decide_eq_true (by first|(with_reducible assumption)|assumption);omega)] <;> rfl)|rfl) ?_;(with_reducible refine (spec_l1Has.calls k2 _ _ (l0.take (x21_2:Int).toNat) (rd l0 x21_2) true _ ?side1 ?side2 A15.out).mono ?_);(case side1=>repeat (first|exact HR105.out|(with_reducible refine Kd.C_alloc ?_ _)|(with_reducible refine Kd.C_drewN ?_ _)|(with_reducible refine Kd.C_drew ?_)));(case side2=>exact HC105.out);rintro e w' ⟨rfl,⟨nd,rfl⟩⟩))
             go_ret
             exact ⟨by first|rfl|(simp;done)|(simp [*];done),by repeat (first|exact Drawn0.refl _|apply Drawn0.step)⟩
            ·replace c16:=Bool.eq_false_iff.mpr c16;subst c16;have H1:(spec_GoodSpots.l0 k2 l0 l0 (l0.length:Int) (wrap64 (x21_2+1)))=some r:=by rw [if_neg (show ¬ (false=true) by decide)] at H;exact H
             clear H;have H:=H1;clear H1;have H':=aM H;clear H;have p104:0≤(x21_2:Int):=of_decide_eq_true (by first|(with_reducible assumption)|assumption);have q104:x21_2<(l0.length:Int):=of_decide_eq_true (by first|(with_reducible assumption)|assumption);obtain ⟨ad104,e104,hx104_0⟩:=Kd.at_int HR0.out x21_2 p104 q104
             cases e104
             replace p104:=eq_true p104;replace q104:=eq_true q104;obtain ⟨i018,hi018,_,hsz18,_⟩:=info_parts info3;obtain ⟨hcut18,hA18,hC18⟩:=print_take_of (P:=Try.prog) (Value.int .i64) 0 34 3 .i64 Try.underlying34 hi018 hsz18 (some ad104) c0 l0 x21_2 (of_decide_eq_true (by first|(with_reducible assumption)|assumption)) (of_decide_eq_true (by first|(with_reducible assumption)|assumption)) HC0.out;have HR105:=aM (Kd.C_of_reads (h1:=fun _=>rfl) (hA18 _ (Kd.reads_of_C HR0.out)));have HC105:=aM hC18;clear hA18 hC18 hi018 hsz18;go_wp2_with (first|(go_at_call 153;refine calls_of_args (args':=#[.slice (some ad104) (l0.take (x21_2:Int).toNat).length c0,.int .i64 (rd l0 x21_2)]) (by first|(rw [show (l0.take (x21_2:Int).toNat).length=x21_2.toNat from (by rw [aH];have h_:(x21_2:Int)≤(l0.length:Int):=of_decide_eq_true (by first|(with_reducible assumption)|assumption);omega)] <;> rfl)|rfl) ?_;(with_reducible refine (spec_l1Has.calls k2 _ _ (l0.take (x21_2:Int).toNat) (rd l0 x21_2) false _ ?side1 ?side2 A15.out).mono ?_);(case side1=>repeat (first|exact HR105.out|(with_reducible refine Kd.C_alloc ?_ _)|(with_reducible refine Kd.C_drewN ?_ _)|(with_reducible refine Kd.C_drew ?_)));(case side2=>exact HC105.out);rintro e w' ⟨rfl,⟨nd,rfl⟩⟩))
             go_roundg k2
             case measure=>have:=HJ1.out;have:=HK2.out;omega
             case rel=>exact ⟨(wrap64 (x21_2+1)),(by first|rfl|(simp;done)|(simp [*];done)),H',⟨by have:=HJ1.out;have:=HK2.out;omega⟩,by repeat (first|exact Drawn0.refl _|apply Drawn0.step)⟩
           ·rw [if_neg c14] at H;exact absurd H (by simp)
          ·rw [if_neg c12] at H;have c12b0:decide (0<(rd l0 x21_2))=false:=decide_eq_false c12;clear c12;have H':=aM H;clear H;have p104:0≤(x21_2:Int):=of_decide_eq_true (by first|(with_reducible assumption)|assumption);have q104:x21_2<(l0.length:Int):=of_decide_eq_true (by first|(with_reducible assumption)|assumption);obtain ⟨ad104,e104,hx104_0⟩:=Kd.at_int HR0.out x21_2 p104 q104
           cases e104
           replace p104:=eq_true p104;replace q104:=eq_true q104;go_wp2;go_roundg k2
           case measure=>have:=HJ1.out;have:=HK2.out;omega
           case rel=>exact ⟨(wrap64 (x21_2+1)),(by first|rfl|(simp;done)|(simp [*];done)),H',⟨by have:=HJ1.out;have:=HK2.out;omega⟩,by repeat (first|exact Drawn0.refl _|apply Drawn0.step)⟩
         ·rw [if_neg c11] at H;exact absurd H (by simp)
        ·rw [if_neg c10] at H;exact absurd H (by simp)
       ·rw [if_neg c9] at H;have c9b0:decide (x21_2<(l0.length:Int))=false:=decide_eq_false c9;clear c9;obtain rfl:=Option.some.inj H;go_wp2
        go_ret
        exact ⟨by first|rfl|(simp;done)|(simp [*];done),by repeat (first|exact Drawn0.refl _|apply Drawn0.step)⟩

mutual
def spec_l10Both.j0:Nat→List Int→List Int→Bool→Option (Bool)
  |0,_,_,_=>none
  |k+1,x0,x1,x23=>if x23=true then (some false) else (spec_l10Both.l0 k x0 x1 x0 (x0.length:Int) 0)
def spec_l10Both.l0:Nat→List Int→List Int→List Int→Int→Int→Option (Bool)
  |0,_,_,_,_,_=>none
  |k+1,x0,x1,x24,x25,x26=>if x26<x25 then (if 0≤x26 then (if x26<(x24.length:Int) then ((spec_l1Has.f k x1 (rd x24 x26)).bind fun t104=>(if t104=true then (spec_l10Both.l0 k x0 x1 x24 x25 (wrap64 (x26+1))) else (some false))) else (none)) else (none)) else (spec_l10Both.l1 k x0 x1 (x1.length:Int) 0)
def spec_l10Both.l1:Nat→List Int→List Int→Int→Int→Option (Bool)
  |0,_,_,_,_=>none
  |k+1,x0,x35,x36,x37=>if x37<x36 then (if 0≤x37 then (if x37<(x35.length:Int) then ((spec_l1Has.f k x0 (rd x35 x37)).bind fun t106=>(if t106=true then (spec_l10Both.l1 k x0 x35 x36 (wrap64 (x37+1))) else (some false))) else (none)) else (none)) else (some true)
end
def spec_l10Both.f (k:Nat) (l0:List Int) (l1:List Int):Option (Bool):=(spec_GoodSpots.f k l0).bind fun t101=>(if t101=true then ((spec_GoodSpots.f k l1).bind fun t102=>(if t102=true then (spec_l10Both.j0 k l0 l1 ((l0.length:Int) != (l1.length:Int))) else (spec_l10Both.j0 k l0 l1 true))) else (spec_l10Both.j0 k l0 l1 true))
set_option maxHeartbeats 8000000 in
set_option maxRecDepth 100000 in
theorem spec_l10Both.calls (k:Nat) (A0:Option Addr) (c0:Nat) (l0:List Int) (A1:Option Addr) (c1:Nat) (l1:List Int) (r:Bool) (w:World) (hr0:Kd.C (Kd.int .i64) w A0 l0.length l0) (hc0:l0.length≤c0) (hr1:Kd.C (Kd.int .i64) w A1 l1.length l1) (hc1:l1.length≤c1) (h:spec_l10Both.f k l0 l1=some r) :
    Calls Try.prog 188 #[.slice A0 l0.length c0,.slice A1 l1.length c1] w fun e w'=>e= .returned (.bool r)∧Drawn0 w w':=by
  have HR0:=aM hr0;have HC0:=aM hc0;clear hr0 hc0;have HR1:=aM hr1;have HC1:=aM hc1;clear hr1 hc1;have H:((spec_GoodSpots.f k l0).bind fun t101=>(if t101=true then ((spec_GoodSpots.f k l1).bind fun t102=>(if t102=true then (spec_l10Both.j0 k l0 l1 ((l0.length:Int) != (l1.length:Int))) else (spec_l10Both.j0 k l0 l1 true))) else (spec_l10Both.j0 k l0 l1 true)))=some r:=h;clear h;have HC3:=aM H;clear H;go_enter Try.func188,Try.ntmps188
  go_upto_region 1 with (fail)
  go_cut [23] (fun v23 wc=>∃ (kq:Nat) (x23_2:Bool),v23= .bool x23_2∧Aside0 (spec_l10Both.j0 kq l0 l1 x23_2=some r)∧Aside0 (kq≤k)∧Drawn0 w wc)
  case first=>
   have H:=HC3.out;clear HC3;replace H:=Option.bind_eq_some_iff.mp H;obtain ⟨t101,A40,H⟩:=H;replace H:(if t101=true then ((spec_GoodSpots.f k l1).bind fun t102=>(if t102=true then (spec_l10Both.j0 k l0 l1 ((l0.length:Int) != (l1.length:Int))) else (spec_l10Both.j0 k l0 l1 true))) else (spec_l10Both.j0 k l0 l1 true))=some r:=H;have A4:=aM A40;clear A40;by_cases c5:t101=true
   ·subst c5;have H1:((spec_GoodSpots.f k l1).bind fun t102=>(if t102=true then (spec_l10Both.j0 k l0 l1 ((l0.length:Int) != (l1.length:Int))) else (spec_l10Both.j0 k l0 l1 true)))=some r:=by rw [if_pos rfl] at H;exact H
    clear H;have H:=H1;clear H1;replace H:=Option.bind_eq_some_iff.mp H;obtain ⟨t102,A60,H⟩:=H;replace H:(if t102=true then (spec_l10Both.j0 k l0 l1 ((l0.length:Int) != (l1.length:Int))) else (spec_l10Both.j0 k l0 l1 true))=some r:=H;have A6:=aM A60;clear A60;by_cases c7:t102=true
    ·subst c7;have H1:(spec_l10Both.j0 k l0 l1 ((l0.length:Int) != (l1.length:Int)))=some r:=by rw [if_pos rfl] at H;exact H
     clear H;have H:=H1;clear H1;have H':=aM H;clear H;go_wp2_with (first|((with_reducible refine Qh (f:=114) rfl ?_);refine goesL_ (some 10) rfl rfl Try.func114 (by kernel_rfl) rfl #[.slice A0 l0.length c0] rfl (by (try simp only [aD,aE,aF]);first|done|rfl|(simp only [aG,aH];rfl)) ?_;(with_reducible refine (spec_GoodSpots.calls k _ _ l0 true _ ?side1 ?side2 A4.out).mono ?_);(case side1=>repeat (first|exact HR0.out|(with_reducible refine Kd.C_alloc ?_ _)|(with_reducible refine Kd.C_drewN ?_ _)|(with_reducible refine Kd.C_drew ?_)));(case side2=>exact HC0.out);rintro e w' ⟨rfl,⟨nd,rfl⟩⟩;refine ⟨_,rfl,?_⟩)|(go_at_call 114;(with_reducible refine (spec_GoodSpots.calls k _ _ l1 true _ ?side1 ?side2 A6.out).mono ?_);(case side1=>repeat (first|exact HR1.out|(with_reducible refine Kd.C_alloc ?_ _)|(with_reducible refine Kd.C_drewN ?_ _)|(with_reducible refine Kd.C_drew ?_)));(case side2=>exact HC1.out);rintro e w' ⟨rfl,⟨nd,rfl⟩⟩))
     go_meet
     case rel=>exact ⟨_,(((l0.length:Int) != (l1.length:Int))),(by first|rfl|(simp;done)|(simp [*];done)),H',⟨by first|omega|exact Nat.le_refl _⟩,by repeat (first|exact Drawn0.refl _|apply Drawn0.step)⟩
    ·replace c7:=Bool.eq_false_iff.mpr c7;subst c7;have H1:(spec_l10Both.j0 k l0 l1 true)=some r:=by rw [if_neg (show ¬ (false=true) by decide)] at H;exact H
     clear H;have H:=H1;clear H1;have H':=aM H;clear H;go_wp2_with (first|((with_reducible refine Qh (f:=114) rfl ?_);refine goesL_ (some 10) rfl rfl Try.func114 (by kernel_rfl) rfl #[.slice A0 l0.length c0] rfl (by (try simp only [aD,aE,aF]);first|done|rfl|(simp only [aG,aH];rfl)) ?_;(with_reducible refine (spec_GoodSpots.calls k _ _ l0 true _ ?side1 ?side2 A4.out).mono ?_);(case side1=>repeat (first|exact HR0.out|(with_reducible refine Kd.C_alloc ?_ _)|(with_reducible refine Kd.C_drewN ?_ _)|(with_reducible refine Kd.C_drew ?_)));(case side2=>exact HC0.out);rintro e w' ⟨rfl,⟨nd,rfl⟩⟩;refine ⟨_,rfl,?_⟩)|(go_at_call 114;(with_reducible refine (spec_GoodSpots.calls k _ _ l1 false _ ?side1 ?side2 A6.out).mono ?_);(case side1=>repeat (first|exact HR1.out|(with_reducible refine Kd.C_alloc ?_ _)|(with_reducible refine Kd.C_drewN ?_ _)|(with_reducible refine Kd.C_drew ?_)));(case side2=>exact HC1.out);rintro e w' ⟨rfl,⟨nd,rfl⟩⟩))
     go_meet
     case rel=>exact ⟨_,(true),(by first|rfl|(simp;done)|(simp [*];done)),H',⟨by first|omega|exact Nat.le_refl _⟩,by repeat (first|exact Drawn0.refl _|apply Drawn0.step)⟩
   ·replace c5:=Bool.eq_false_iff.mpr c5;subst c5;have H1:(spec_l10Both.j0 k l0 l1 true)=some r:=by rw [if_neg (show ¬ (false=true) by decide)] at H;exact H
    clear H;have H:=H1;clear H1;have H':=aM H;clear H;go_wp2_with (first|((with_reducible refine Qh (f:=114) rfl ?_);refine goesL_ (some 10) rfl rfl Try.func114 (by kernel_rfl) rfl #[.slice A0 l0.length c0] rfl (by (try simp only [aD,aE,aF]);first|done|rfl|(simp only [aG,aH];rfl)) ?_;(with_reducible refine (spec_GoodSpots.calls k _ _ l0 false _ ?side1 ?side2 A4.out).mono ?_);(case side1=>repeat (first|exact HR0.out|(with_reducible refine Kd.C_alloc ?_ _)|(with_reducible refine Kd.C_drewN ?_ _)|(with_reducible refine Kd.C_drew ?_)));(case side2=>exact HC0.out);rintro e w' ⟨rfl,⟨nd,rfl⟩⟩;refine ⟨_,rfl,?_⟩))
    go_meet
    case rel=>exact ⟨_,(true),(by first|rfl|(simp;done)|(simp [*];done)),H',⟨by first|omega|exact Nat.le_refl _⟩,by repeat (first|exact Drawn0.refl _|apply Drawn0.step)⟩
  case rest=>
   clear HC3;(try clear c1);(try clear p2);(try clear c5);(try clear c7);obtain ⟨kq,x23_2,rfl,HA,HJ2,⟨mc2,rfl⟩⟩:=hcut
   cases kq with
   |zero=>exact absurd HA.out (by simp [spec_l10Both.j0])
   |succ kj2=>
    have H:=HA.out;clear HA;simp only [spec_l10Both.j0] at H;by_cases c8:x23_2=true
    ·subst c8;have H1:(some false)=some r:=by rw [if_pos rfl] at H;exact H
     clear H;have H:=H1;clear H1;obtain rfl:=Option.some.inj H;go_wp2
     go_ret
     exact ⟨by first|rfl|(simp;done)|(simp [*];done),by repeat (first|exact Drawn0.refl _|apply Drawn0.step)⟩
    ·replace c8:=Bool.eq_false_iff.mpr c8;subst c8;have H1:(spec_l10Both.l0 kj2 l0 l1 l0 (l0.length:Int) 0)=some r:=by rw [if_neg (show ¬ (false=true) by decide)] at H;exact H
     clear H;have H:=H1;clear H1;have H':=aM H;clear H;go_wp2;go_loopg [26] kj2 (fun kq v26 w'=>∃ (x26_2:Int),v26= .int .i64 x26_2∧Aside0 (spec_l10Both.l0 kq l0 l1 l0 (l0.length:Int) x26_2=some r)∧Aside0 (kq≤kj2)∧Drawn0 w w')
     case atStart=>exact ⟨(0),(by first|rfl|(simp;done)|(simp [*];done)),H',⟨Nat.le_refl _⟩,by repeat (first|exact Drawn0.refl _|apply Drawn0.step)⟩
     case round=>
      clear H';(try clear c1);(try clear c2);(try clear p2);(try clear c5);(try clear c7);(try clear c8);(try clear p2);obtain ⟨x26_2,rfl,HA,HK2,⟨m2,rfl⟩⟩:=hrel
      cases gk with
      |zero=>exact absurd HA.out (by simp [spec_l10Both.l0])
      |succ k2=>
       have H:=HA.out;clear HA;simp only [spec_l10Both.l0] at H;by_cases c9:x26_2<(l0.length:Int)
       ·rw [if_pos c9] at H;have c9b0:decide (x26_2<(l0.length:Int))=true:=decide_eq_true c9;clear c9;by_cases c10:0≤x26_2
        ·rw [if_pos c10] at H;have c10b0:decide (0≤x26_2)=true:=decide_eq_true c10;clear c10;by_cases c11:x26_2<(l0.length:Int)
         ·rw [if_pos c11] at H;have c11b0:decide (x26_2<(l0.length:Int))=true:=decide_eq_true c11;clear c11;replace H:=Option.bind_eq_some_iff.mp H;obtain ⟨t104,A120,H⟩:=H;replace H:(if t104=true then (spec_l10Both.l0 k2 l0 l1 l0 (l0.length:Int) (wrap64 (x26_2+1))) else (some false))=some r:=H;have A12:=aM A120;clear A120;by_cases c13:t104=true
          ·subst c13;have H1:(spec_l10Both.l0 k2 l0 l1 l0 (l0.length:Int) (wrap64 (x26_2+1)))=some r:=by rw [if_pos rfl] at H;exact H
           clear H;have H:=H1;clear H1;have H':=aM H;clear H;have p103:0≤(x26_2:Int):=of_decide_eq_true (by first|(with_reducible assumption)|assumption);have q103:x26_2<(l0.length:Int):=of_decide_eq_true (by first|(with_reducible assumption)|assumption);obtain ⟨ad103,e103,hx103_0⟩:=Kd.at_int HR0.out x26_2 p103 q103
           cases e103
           replace p103:=eq_true p103;replace q103:=eq_true q103;go_wp2_with (first|((with_reducible refine Qh (f:=153) rfl ?_);refine goesL_ (some 32) rfl rfl Try.func153 (by kernel_rfl) rfl #[.slice A1 l1.length c1,.int .i64 (rd l0 x26_2)] rfl (by (try simp only [aD,aE,aF]);first|done|rfl|(simp only [aG,aH];rfl)) ?_;(with_reducible refine (spec_l1Has.calls k2 _ _ l1 (rd l0 x26_2) true _ ?side1 ?side2 A12.out).mono ?_);(case side1=>repeat (first|exact HR1.out|(with_reducible refine Kd.C_alloc ?_ _)|(with_reducible refine Kd.C_drewN ?_ _)|(with_reducible refine Kd.C_drew ?_)));(case side2=>exact HC1.out);rintro e w' ⟨rfl,⟨nd,rfl⟩⟩;refine ⟨_,rfl,?_⟩))
           go_roundg k2
           case measure=>have:=HJ2.out;have:=HK2.out;omega
           case rel=>exact ⟨(wrap64 (x26_2+1)),(by first|rfl|(simp;done)|(simp [*];done)),H',⟨by have:=HJ2.out;have:=HK2.out;omega⟩,by repeat (first|exact Drawn0.refl _|apply Drawn0.step)⟩
          ·replace c13:=Bool.eq_false_iff.mpr c13;subst c13;have H1:(some false)=some r:=by rw [if_neg (show ¬ (false=true) by decide)] at H;exact H
           clear H;have H:=H1;clear H1;obtain rfl:=Option.some.inj H;have p103:0≤(x26_2:Int):=of_decide_eq_true (by first|(with_reducible assumption)|assumption);have q103:x26_2<(l0.length:Int):=of_decide_eq_true (by first|(with_reducible assumption)|assumption);obtain ⟨ad103,e103,hx103_0⟩:=Kd.at_int HR0.out x26_2 p103 q103
           cases e103
           replace p103:=eq_true p103;replace q103:=eq_true q103;go_wp2_with (first|((with_reducible refine Qh (f:=153) rfl ?_);refine goesL_ (some 32) rfl rfl Try.func153 (by kernel_rfl) rfl #[.slice A1 l1.length c1,.int .i64 (rd l0 x26_2)] rfl (by (try simp only [aD,aE,aF]);first|done|rfl|(simp only [aG,aH];rfl)) ?_;(with_reducible refine (spec_l1Has.calls k2 _ _ l1 (rd l0 x26_2) false _ ?side1 ?side2 A12.out).mono ?_);(case side1=>repeat (first|exact HR1.out|(with_reducible refine Kd.C_alloc ?_ _)|(with_reducible refine Kd.C_drewN ?_ _)|(with_reducible refine Kd.C_drew ?_)));(case side2=>exact HC1.out);rintro e w' ⟨rfl,⟨nd,rfl⟩⟩;refine ⟨_,rfl,?_⟩))
           go_ret
           exact ⟨by first|rfl|(simp;done)|(simp [*];done),by repeat (first|exact Drawn0.refl _|apply Drawn0.step)⟩
         ·rw [if_neg c11] at H;exact absurd H (by simp)
        ·rw [if_neg c10] at H;exact absurd H (by simp)
       ·rw [if_neg c9] at H;have c9b0:decide (x26_2<(l0.length:Int))=false:=decide_eq_false c9;clear c9;have H':=aM H;clear H;go_wp2;go_loopg [37] k2 (fun kq v37 w'=>∃ (x37_3:Int),v37= .int .i64 x37_3∧Aside0 (spec_l10Both.l1 kq l0 l1 (l1.length:Int) x37_3=some r)∧Aside0 (kq≤k2)∧Drawn0 w w')
        case atStart=>exact ⟨(0),(by first|rfl|(simp;done)|(simp [*];done)),H',⟨Nat.le_refl _⟩,by repeat (first|exact Drawn0.refl _|apply Drawn0.step)⟩
        case round=>
         clear H';(try clear c1);(try clear p1);(try clear q1);(try clear hx1);(try clear c2);(try clear p2);(try clear c5);(try clear p6);(try clear c7);(try clear c8);(try clear c9);(try clear c9b0);(try clear c10);(try clear c10b0);(try clear p10);(try clear q10);(try clear hx10);(try clear c11);(try clear c11b0);(try clear c13);(try clear hx103_0);(try clear p103);(try clear p2);(try clear q103);obtain ⟨x37_3,rfl,HA,HK3,⟨m3,rfl⟩⟩:=hrel
         cases gk with
         |zero=>exact absurd HA.out (by simp [spec_l10Both.l1])
         |succ k3=>
          have H:=HA.out;clear HA;simp only [spec_l10Both.l1] at H;by_cases c14:x37_3<(l1.length:Int)
          ·rw [if_pos c14] at H;have c14b0:decide (x37_3<(l1.length:Int))=true:=decide_eq_true c14;clear c14;by_cases c15:0≤x37_3
           ·rw [if_pos c15] at H;have c15b0:decide (0≤x37_3)=true:=decide_eq_true c15;clear c15;by_cases c16:x37_3<(l1.length:Int)
            ·rw [if_pos c16] at H;have c16b0:decide (x37_3<(l1.length:Int))=true:=decide_eq_true c16;clear c16;replace H:=Option.bind_eq_some_iff.mp H;obtain ⟨t106,A170,H⟩:=H;replace H:(if t106=true then (spec_l10Both.l1 k3 l0 l1 (l1.length:Int) (wrap64 (x37_3+1))) else (some false))=some r:=H;have A17:=aM A170;clear A170;by_cases c18:t106=true
             ·subst c18;have H1:(spec_l10Both.l1 k3 l0 l1 (l1.length:Int) (wrap64 (x37_3+1)))=some r:=by rw [if_pos rfl] at H;exact H
              clear H;have H:=H1;clear H1;have H':=aM H;clear H;have p105:0≤(x37_3:Int):=of_decide_eq_true (by first|(with_reducible assumption)|assumption);have q105:x37_3<(l1.length:Int):=of_decide_eq_true (by first|(with_reducible assumption)|assumption);obtain ⟨ad105,e105,hx105_0⟩:=Kd.at_int HR1.out x37_3 p105 q105
              cases e105
              replace p105:=eq_true p105;replace q105:=eq_true q105;go_wp2_with (first|((with_reducible refine Qh (f:=153) rfl ?_);refine goesL_ (some 43) rfl rfl Try.func153 (by kernel_rfl) rfl #[.slice A0 l0.length c0,.int .i64 (rd l1 x37_3)] rfl (by (try simp only [aD,aE,aF]);first|done|rfl|(simp only [aG,aH];rfl)) ?_;(with_reducible refine (spec_l1Has.calls k3 _ _ l0 (rd l1 x37_3) true _ ?side1 ?side2 A17.out).mono ?_);(case side1=>repeat (first|exact HR0.out|(with_reducible refine Kd.C_alloc ?_ _)|(with_reducible refine Kd.C_drewN ?_ _)|(with_reducible refine Kd.C_drew ?_)));(case side2=>exact HC0.out);rintro e w' ⟨rfl,⟨nd,rfl⟩⟩;refine ⟨_,rfl,?_⟩))
              go_roundg k3
              case measure=>have:=HJ2.out;have:=HK2.out;have:=HK3.out;omega
              case rel=>exact ⟨(wrap64 (x37_3+1)),(by first|rfl|(simp;done)|(simp [*];done)),H',⟨by have:=HJ2.out;have:=HK2.out;have:=HK3.out;omega⟩,by repeat (first|exact Drawn0.refl _|apply Drawn0.step)⟩
             ·replace c18:=Bool.eq_false_iff.mpr c18;subst c18;have H1:(some false)=some r:=by rw [if_neg (show ¬ (false=true) by decide)] at H;exact H
              clear H;have H:=H1;clear H1;obtain rfl:=Option.some.inj H;have p105:0≤(x37_3:Int):=of_decide_eq_true (by first|(with_reducible assumption)|assumption);have q105:x37_3<(l1.length:Int):=of_decide_eq_true (by first|(with_reducible assumption)|assumption);obtain ⟨ad105,e105,hx105_0⟩:=Kd.at_int HR1.out x37_3 p105 q105
              cases e105
              replace p105:=eq_true p105;replace q105:=eq_true q105;go_wp2_with (first|((with_reducible refine Qh (f:=153) rfl ?_);refine goesL_ (some 43) rfl rfl Try.func153 (by kernel_rfl) rfl #[.slice A0 l0.length c0,.int .i64 (rd l1 x37_3)] rfl (by (try simp only [aD,aE,aF]);first|done|rfl|(simp only [aG,aH];rfl)) ?_;(with_reducible refine (spec_l1Has.calls k3 _ _ l0 (rd l1 x37_3) false _ ?side1 ?side2 A17.out).mono ?_);(case side1=>repeat (first|exact HR0.out|(with_reducible refine Kd.C_alloc ?_ _)|(with_reducible refine Kd.C_drewN ?_ _)|(with_reducible refine Kd.C_drew ?_)));(case side2=>exact HC0.out);rintro e w' ⟨rfl,⟨nd,rfl⟩⟩;refine ⟨_,rfl,?_⟩))
              go_ret
              exact ⟨by first|rfl|(simp;done)|(simp [*];done),by repeat (first|exact Drawn0.refl _|apply Drawn0.step)⟩
            ·rw [if_neg c16] at H;exact absurd H (by simp)
           ·rw [if_neg c15] at H;exact absurd H (by simp)
          ·rw [if_neg c14] at H;have c14b0:decide (x37_3<(l1.length:Int))=false:=decide_eq_false c14;clear c14;obtain rfl:=Option.some.inj H;go_wp2
           go_ret
           exact ⟨by first|rfl|(simp;done)|(simp [*];done),by repeat (first|exact Drawn0.refl _|apply Drawn0.step)⟩

def spec_l10Spot.l0:Nat→Int→List Int→Int→Int→Option (Int)
  |0,_,_,_,_=>none
  |k+1,x1,x7,x8,x9=>if x9<x8 then (if 0≤x9 then (if x9<(x7.length:Int) then (if (rd x7 x9)=x1 then (some x9) else (spec_l10Spot.l0 k x1 x7 x8 (wrap64 (x9+1)))) else (none)) else (none)) else (some (-1))
def spec_l10Spot.f (k:Nat) (l0:List Int) (a1:Int):Option (Int):=spec_l10Spot.l0 k a1 l0 (l0.length:Int) 0
set_option maxHeartbeats 8000000 in
set_option maxRecDepth 100000 in
theorem spec_l10Spot.calls (k:Nat) (A0:Option Addr) (c0:Nat) (l0:List Int) (a1:Int) (r:Int) (w:World) (hr0:Kd.C (Kd.int .i64) w A0 l0.length l0) (hc0:l0.length≤c0) (h:spec_l10Spot.f k l0 a1=some r) :
    Calls Try.prog 249 #[.slice A0 l0.length c0,.int .i64 a1] w fun e w'=>e= .returned (.int .i64 r)∧Drawn0 w w':=by
  have HR0:=aM hr0;have HC0:=aM hc0;clear hr0 hc0;have H:(spec_l10Spot.l0 k a1 l0 (l0.length:Int) 0)=some r:=h;clear h;have H':=aM H;clear H;go_enter Try.func249,Try.ntmps249;go_wp2;go_loopg [9] k (fun kq v9 w'=>∃ (x9_1:Int),v9= .int .i64 x9_1∧Aside0 (spec_l10Spot.l0 kq a1 l0 (l0.length:Int) x9_1=some r)∧Aside0 (kq≤k)∧Drawn0 w w')
  case atStart=>exact ⟨(0),(by first|rfl|(simp;done)|(simp [*];done)),H',⟨Nat.le_refl _⟩,by repeat (first|exact Drawn0.refl _|apply Drawn0.step)⟩
  case round=>
   clear H';(try clear c2);(try clear p2);obtain ⟨x9_1,rfl,HA,HK1,⟨m1,rfl⟩⟩:=hrel
   cases gk with
   |zero=>exact absurd HA.out (by simp [spec_l10Spot.l0])
   |succ k1=>
    have H:=HA.out;clear HA;simp only [spec_l10Spot.l0] at H;by_cases c3:x9_1<(l0.length:Int)
    ·rw [if_pos c3] at H;have c3b0:decide (x9_1<(l0.length:Int))=true:=decide_eq_true c3;clear c3;by_cases c4:0≤x9_1
     ·rw [if_pos c4] at H;have c4b0:decide (0≤x9_1)=true:=decide_eq_true c4;clear c4;by_cases c5:x9_1<(l0.length:Int)
      ·rw [if_pos c5] at H;have c5b0:decide (x9_1<(l0.length:Int))=true:=decide_eq_true c5;clear c5;by_cases c6:(rd l0 x9_1)=a1
       ·rw [if_pos c6] at H;have c6b0:((rd l0 x9_1) == a1)=true:=beq_iff_eq.mpr c6;have c6b1:((rd l0 x9_1) != a1)=false:=bne_eq_false_iff_eq.mpr c6;clear c6;obtain rfl:=Option.some.inj H;have p101:0≤(x9_1:Int):=of_decide_eq_true (by first|(with_reducible assumption)|assumption);have q101:x9_1<(l0.length:Int):=of_decide_eq_true (by first|(with_reducible assumption)|assumption);obtain ⟨ad101,e101,hx101_0⟩:=Kd.at_int HR0.out x9_1 p101 q101
        cases e101
        replace p101:=eq_true p101;replace q101:=eq_true q101;go_wp2
        go_ret
        exact ⟨by first|rfl|(simp;done)|(simp [*];done),by repeat (first|exact Drawn0.refl _|apply Drawn0.step)⟩
       ·rw [if_neg c6] at H;have c6b0:((rd l0 x9_1) == a1)=false:=beq_eq_false_iff_ne.mpr c6;have c6b1:((rd l0 x9_1) != a1)=true:=bne_iff_ne.mpr c6;have H':=aM H;clear H;have p101:0≤(x9_1:Int):=of_decide_eq_true (by first|(with_reducible assumption)|assumption);have q101:x9_1<(l0.length:Int):=of_decide_eq_true (by first|(with_reducible assumption)|assumption);obtain ⟨ad101,e101,hx101_0⟩:=Kd.at_int HR0.out x9_1 p101 q101
        cases e101
        replace p101:=eq_true p101;replace q101:=eq_true q101;go_wp2;go_roundg k1
        case measure=>have:=HK1.out;omega
        case rel=>exact ⟨(wrap64 (x9_1+1)),(by first|rfl|(simp;done)|(simp [*];done)),H',⟨by have:=HK1.out;omega⟩,by repeat (first|exact Drawn0.refl _|apply Drawn0.step)⟩
      ·rw [if_neg c5] at H;exact absurd H (by simp)
     ·rw [if_neg c4] at H;exact absurd H (by simp)
    ·rw [if_neg c3] at H;have c3b0:decide (x9_1<(l0.length:Int))=false:=decide_eq_false c3;clear c3;obtain rfl:=Option.some.inj H;go_wp2
     go_ret
     exact ⟨by first|rfl|(simp;done)|(simp [*];done),by repeat (first|exact Drawn0.refl _|apply Drawn0.step)⟩

mutual
def spec_l10Rings.l0:Nat→List Int→List Int→Int→Int→List Bool→List Int→Int→Int→Option (Int×Int)
  |0,_,_,_,_,_,_,_,_=>none
  |k+1,x0,x1,x6,x7,x8,x16,x17,x18=>if x18<x17 then (if 0≤x18 then (if x18<(x16.length:Int) then (if (rd x16 x18) > 0 then (if x18<(x1.length:Int) then (if (rd x1 x18)=(rd x16 x18) then (spec_l10Rings.l0 k x0 x1 x6 x7 x8 x16 x17 (wrap64 (x18+1))) else (spec_l10Rings.l0 k x0 x1 (wrap64 (x6+1)) x7 x8 x16 x17 (wrap64 (x18+1)))) else (none)) else (spec_l10Rings.l0 k x0 x1 x6 x7 x8 x16 x17 (wrap64 (x18+1)))) else (none)) else (none)) else (spec_l10Rings.l1 k x0 x1 x6 x7 x8 (x0.length:Int) 0)
def spec_l10Rings.l1:Nat→List Int→List Int→Int→Int→List Bool→Int→Int→Option (Int×Int)
  |0,_,_,_,_,_,_,_=>none
  |k+1,x0,x1,x6,x7,x8,x37,x38=>if x38<x37 then (spec_l10Rings.l2 k x0 x1 x6 x7 x8 x38 x38 x37 x38) else (some (x6,x7))
def spec_l10Rings.l2:Nat→List Int→List Int→Int→Int→List Bool→Int→Int→Int→Int→Option (Int×Int)
  |0,_,_,_,_,_,_,_,_,_=>none
  |k+1,x0,x1,x6,x7,x8,x11,x12,x37,x38=>if 0≤x12 then (if x12<(x8.length:Int) then (if rdOf false x8 x12=true then (spec_l10Rings.j3 k x0 x1 x6 x7 x8 x11 x12 x37 x38 false) else (if x12<(x0.length:Int) then (if (rd x0 x12) > 0 then (if x12<(x1.length:Int) then (spec_l10Rings.j3 k x0 x1 x6 x7 x8 x11 x12 x37 x38 ((rd x1 x12) != (rd x0 x12))) else (none)) else (spec_l10Rings.j3 k x0 x1 x6 x7 x8 x11 x12 x37 x38 false)) else (none))) else (none)) else (none)
def spec_l10Rings.j3:Nat→List Int→List Int→Int→Int→List Bool→Int→Int→Int→Int→Bool→Option (Int×Int)
  |0,_,_,_,_,_,_,_,_,_,_=>none
  |k+1,x0,x1,x6,x7,x8,x11,x12,x37,x38,x64=>if x64=true then (if 0≤x12 then (if x12<(x8.length:Int) then ((some (x8.set (x12:Int).toNat true:List Bool)).bind fun y110=>(if x12<(x0.length:Int) then ((spec_l10Spot.f k x1 (rd x0 x12)).bind fun t112=>(if t112=x11 then (spec_l10Rings.l2 k x0 x1 x6 (wrap64 (x7+1)) y110 x11 t112 x37 x38) else (spec_l10Rings.l2 k x0 x1 x6 x7 y110 x11 t112 x37 x38))) else (none))) else (none)) else (none)) else (spec_l10Rings.l1 k x0 x1 x6 x7 x8 x37 (wrap64 (x38+1)))
end
def spec_l10Rings.f (k:Nat) (l0:List Int) (l1:List Int):Option (Int×Int):=if 0≤(l0.length:Int) then (if ((l0.length:Int):Int).toNat≤281474976710656 then (spec_l10Rings.l0 k l0 l1 0 0 (List.replicate ((l0.length:Int):Int).toNat false) l0 (l0.length:Int) 0) else (none)) else (none)
set_option maxHeartbeats 8000000 in
set_option maxRecDepth 100000 in
theorem spec_l10Rings.calls (k:Nat) (A0:Option Addr) (c0:Nat) (l0:List Int) (A1:Option Addr) (c1:Nat) (l1:List Int) (r1:Int) (r2:Int) (w:World) (hr0:Kd.C (Kd.int .i64) w A0 l0.length l0) (hc0:l0.length≤c0) (hr1:Kd.C (Kd.int .i64) w A1 l1.length l1) (hc1:l1.length≤c1) (h:spec_l10Rings.f k l0 l1=some (r1,r2)) :
    Calls Try.prog 189 #[.slice A0 l0.length c0,.slice A1 l1.length c1] w fun e w'=>e= .returned (.tuple #[.int .i64 r1,.int .i64 r2])∧Below w.heap.size w w':=by
  have HR0:=aM hr0;have HC0:=aM hc0;clear hr0 hc0;have HR1:=aM hr1;have HC1:=aM hc1;clear hr1 hc1;have HB:=aM (Below.refl w.heap.size w);have H:(if 0≤(l0.length:Int) then (if ((l0.length:Int):Int).toNat≤281474976710656 then (spec_l10Rings.l0 k l0 l1 0 0 (List.replicate ((l0.length:Int):Int).toNat false) l0 (l0.length:Int) 0) else (none)) else (none))=some (r1,r2):=h;clear h;by_cases c3:0≤(l0.length:Int)
  ·rw [if_pos c3] at H;have c3b0:=eq_true c3;have c3b1:decide (0≤(l0.length:Int))=true:=decide_eq_true c3;clear c3;by_cases c4:((l0.length:Int):Int).toNat≤281474976710656
   ·rw [if_pos c4] at H;have c4b0:=eq_true c4;have c4b1:decide (((l0.length:Int):Int).toNat≤281474976710656)=true:=decide_eq_true c4;clear c4;obtain ⟨y101,hy101⟩:∃ y_:List Bool,y_=(List.replicate ((l0.length:Int):Int).toNat false):=⟨_,rfl⟩;replace H:(spec_l10Rings.l0 k l0 l1 0 0 y101 l0 (l0.length:Int) 0)=some (r1,r2):=by first|(rw [hy101];with_reducible exact H)|(have H2_:=(Option.bind_some _ _).symm.trans H;rw [hy101];with_reducible exact H2_)|(have H2_:=(Option.bind_some _ _).symm.trans H;with_reducible exact H2_)|with_reducible exact H|(rw [hy101];exact H)|exact H
    have Ny101:=aM hy101;clear hy101;have H':=aM H;clear H;go_enter Try.func189,Try.ntmps189;go_wp2_with (first|((with_reducible refine gate_dst (N:=15) rfl ?_);refine Kd.R_make Kd.bool _ 4 rfl (N:=15) rfl 99 _ _ rfl (l0.length:Int) rfl rfl Try.underlying99 (.bool false) 1 info4 rfl (by decide) (by omega) false (ok:=fun _=>True) (okp:=fun _=>True) rfl (fun _ hk=>hk) trivial (of_decide_eq_true (by first|(with_reducible assumption)|assumption)) (Nat.le_trans (Nat.mul_le_mul_right _ (of_decide_eq_true (by first|(with_reducible assumption)|assumption):(l0.length:Int).toNat≤281474976710656)) (by omega)) (Below.refl _ _) (Nat.le_refl _) ?_;intro v102 w5 ho6 hb hg_ hnew_;clear hg_ hnew_;(first|rw [←Ny101.out] at ho6|(simp only [Int.reduceToNat] at ho6;rw [←Ny101.out] at ho6));have n0_:=aM (Kd.R_lower ho6 (below_size (by repeat (first|(with_reducible first|exact HB.out|apply Qc|apply Qa|apply Qb)|exact HB.out))));have n1_:=aM (below_step (by repeat (first|(with_reducible first|exact HB.out|apply Qc|apply Qa|apply Qb)|exact HB.out)) hb);clear HB;have HO103:=n0_;have HB:=n1_;clear n0_ n1_;clear hb ho6))
    repeat (go_quiet (first|((with_reducible refine gate_dst (N:=15) rfl ?_);refine Kd.R_make Kd.bool _ 4 rfl (N:=15) rfl 99 _ _ rfl (l0.length:Int) rfl rfl Try.underlying99 (.bool false) 1 info4 rfl (by decide) (by omega) false (ok:=fun _=>True) (okp:=fun _=>True) rfl (fun _ hk=>hk) trivial (of_decide_eq_true (by first|(with_reducible assumption)|assumption)) (Nat.le_trans (Nat.mul_le_mul_right _ (of_decide_eq_true (by first|(with_reducible assumption)|assumption):(l0.length:Int).toNat≤281474976710656)) (by omega)) (Below.refl _ _) (Nat.le_refl _) ?_;intro v102 w5 ho6 hb hg_ hnew_;clear hg_ hnew_;(first|rw [←Ny101.out] at ho6|(simp only [Int.reduceToNat] at ho6;rw [←Ny101.out] at ho6));have n0_:=aM (Kd.R_lower ho6 (below_size (by repeat (first|(with_reducible first|exact HB.out|apply Qc|apply Qa|apply Qb)|exact HB.out))));have n1_:=aM (below_step (by repeat (first|(with_reducible first|exact HB.out|apply Qc|apply Qa|apply Qb)|exact HB.out)) hb);clear HB;have HO103:=n0_;have HB:=n1_;clear n0_ n1_;clear hb ho6));try go_wp2_with (first|((with_reducible refine gate_dst (N:=15) rfl ?_);refine Kd.R_make Kd.bool _ 4 rfl (N:=15) rfl 99 _ _ rfl (l0.length:Int) rfl rfl Try.underlying99 (.bool false) 1 info4 rfl (by decide) (by omega) false (ok:=fun _=>True) (okp:=fun _=>True) rfl (fun _ hk=>hk) trivial (of_decide_eq_true (by first|(with_reducible assumption)|assumption)) (Nat.le_trans (Nat.mul_le_mul_right _ (of_decide_eq_true (by first|(with_reducible assumption)|assumption):(l0.length:Int).toNat≤281474976710656)) (by omega)) (Below.refl _ _) (Nat.le_refl _) ?_;intro v102 w5 ho6 hb hg_ hnew_;clear hg_ hnew_;(first|rw [←Ny101.out] at ho6|(simp only [Int.reduceToNat] at ho6;rw [←Ny101.out] at ho6));have n0_:=aM (Kd.R_lower ho6 (below_size (by repeat (first|(with_reducible first|exact HB.out|apply Qc|apply Qa|apply Qb)|exact HB.out))));have n1_:=aM (below_step (by repeat (first|(with_reducible first|exact HB.out|apply Qc|apply Qa|apply Qb)|exact HB.out)) hb);clear HB;have HO103:=n0_;have HB:=n1_;clear n0_ n1_;clear hb ho6)))
    go_loopg [6,18] k (fun kq v6 v18 w'=>∃ (x6_1:Int) (x18_1:Int),v6= .int .i64 x6_1∧v18= .int .i64 x18_1∧Aside0 (spec_l10Rings.l0 kq l0 l1 x6_1 0 y101 l0 (l0.length:Int) x18_1=some (r1,r2))∧Aside0 (kq≤k)∧Aside0 (Kd.R Kd.bool 4 w' w.heap.size (fun _=>True) v102 y101)∧Aside0 (Below w.heap.size w w'))
    case atStart=>exact ⟨(0),(0),(by first|rfl|(simp;done)|(simp [*];done)),(by first|rfl|(simp;done)|(simp [*];done)),H',⟨Nat.le_refl _⟩,⟨by (with_reducible repeat (first|apply Kd.Qe|apply Kd.Qd|apply Kd.R_drew));exact HO103.out⟩,⟨by repeat (first|(with_reducible first|exact HB.out|apply Qc|apply Qa|apply Qb)|exact HB.out)⟩⟩
    case round=>
     clear H';(try clear c1);(try clear p2);(try clear c3);(try clear c3b0);(try clear c3b1);(try clear c4);(try clear c4b0);(try clear c4b1);obtain ⟨x6_1,x18_1,rfl,rfl,HA,HK1,HO_8,HB⟩:=hrel
     cases gk with
     |zero=>exact absurd HA.out (by simp [spec_l10Rings.l0])
     |succ k1=>
      have H:=HA.out;clear HA;simp only [spec_l10Rings.l0] at H;by_cases c7:x18_1<(l0.length:Int)
      ·rw [if_pos c7] at H;have c7b0:decide (x18_1<(l0.length:Int))=true:=decide_eq_true c7;clear c7;by_cases c8:0≤x18_1
       ·rw [if_pos c8] at H;have c8b0:decide (0≤x18_1)=true:=decide_eq_true c8;clear c8;by_cases c9:x18_1<(l0.length:Int)
        ·rw [if_pos c9] at H;have c9b0:decide (x18_1<(l0.length:Int))=true:=decide_eq_true c9;clear c9;by_cases c10:(rd l0 x18_1) > 0
         ·rw [if_pos c10] at H;have c10b0:decide (0<(rd l0 x18_1))=true:=decide_eq_true c10;clear c10;by_cases c11:x18_1<(l1.length:Int)
          ·rw [if_pos c11] at H;have c11b0:decide (x18_1<(l1.length:Int))=true:=decide_eq_true c11;clear c11;by_cases c12:(rd l1 x18_1)=(rd l0 x18_1)
           ·rw [if_pos c12] at H;have c12b0:((rd l1 x18_1) == (rd l0 x18_1))=true:=beq_iff_eq.mpr c12;have c12b1:((rd l1 x18_1) != (rd l0 x18_1))=false:=bne_eq_false_iff_eq.mpr c12;clear c12;have H':=aM H;clear H;have p104:0≤(x18_1:Int):=of_decide_eq_true (by first|(with_reducible assumption)|assumption);have q104:x18_1<(l0.length:Int):=of_decide_eq_true (by first|(with_reducible assumption)|assumption);obtain ⟨ad104,e104,hx104_0⟩:=Kd.at_int HR0.out x18_1 p104 q104
            cases e104
            replace hx104_0:=(HB.out.cell (aI w _ hx104_0)).trans hx104_0;replace p104:=eq_true p104;replace q104:=eq_true q104;have p105:0≤(x18_1:Int):=of_decide_eq_true (by first|(with_reducible assumption)|assumption);have q105:x18_1<(l1.length:Int):=of_decide_eq_true (by first|(with_reducible assumption)|assumption);obtain ⟨ad105,e105,hx105_0⟩:=Kd.at_int HR1.out x18_1 p105 q105
            cases e105
            replace hx105_0:=(HB.out.cell (aI w _ hx105_0)).trans hx105_0;replace p105:=eq_true p105;replace q105:=eq_true q105;go_wp2
            repeat (go_quiet (fail);try go_wp2)
            go_roundg k1
            case measure=>have:=HK1.out;omega
            case rel=>exact ⟨(x6_1),(wrap64 (x18_1+1)),(by first|rfl|(simp;done)|(simp [*];done)),(by first|rfl|(simp;done)|(simp [*];done)),H',⟨by have:=HK1.out;omega⟩,⟨by (with_reducible repeat (first|apply Kd.Qe|apply Kd.Qd|apply Kd.R_drew));exact HO_8.out⟩,⟨by repeat (first|(with_reducible first|exact HB.out|apply Qc|apply Qa|apply Qb)|exact HB.out)⟩⟩
           ·rw [if_neg c12] at H;have c12b0:((rd l1 x18_1) == (rd l0 x18_1))=false:=beq_eq_false_iff_ne.mpr c12;have c12b1:((rd l1 x18_1) != (rd l0 x18_1))=true:=bne_iff_ne.mpr c12;have H':=aM H;clear H;have p104:0≤(x18_1:Int):=of_decide_eq_true (by first|(with_reducible assumption)|assumption);have q104:x18_1<(l0.length:Int):=of_decide_eq_true (by first|(with_reducible assumption)|assumption);obtain ⟨ad104,e104,hx104_0⟩:=Kd.at_int HR0.out x18_1 p104 q104
            cases e104
            replace hx104_0:=(HB.out.cell (aI w _ hx104_0)).trans hx104_0;replace p104:=eq_true p104;replace q104:=eq_true q104;have p105:0≤(x18_1:Int):=of_decide_eq_true (by first|(with_reducible assumption)|assumption);have q105:x18_1<(l1.length:Int):=of_decide_eq_true (by first|(with_reducible assumption)|assumption);obtain ⟨ad105,e105,hx105_0⟩:=Kd.at_int HR1.out x18_1 p105 q105
            cases e105
            replace hx105_0:=(HB.out.cell (aI w _ hx105_0)).trans hx105_0;replace p105:=eq_true p105;replace q105:=eq_true q105;go_wp2
            repeat (go_quiet (fail);try go_wp2)
            go_roundg k1
            case measure=>have:=HK1.out;omega
            case rel=>exact ⟨(wrap64 (x6_1+1)),(wrap64 (x18_1+1)),(by first|rfl|(simp;done)|(simp [*];done)),(by first|rfl|(simp;done)|(simp [*];done)),H',⟨by have:=HK1.out;omega⟩,⟨by (with_reducible repeat (first|apply Kd.Qe|apply Kd.Qd|apply Kd.R_drew));exact HO_8.out⟩,⟨by repeat (first|(with_reducible first|exact HB.out|apply Qc|apply Qa|apply Qb)|exact HB.out)⟩⟩
          ·rw [if_neg c11] at H;exact absurd H (by simp)
         ·rw [if_neg c10] at H;have c10b0:decide (0<(rd l0 x18_1))=false:=decide_eq_false c10;clear c10;have H':=aM H;clear H;have p104:0≤(x18_1:Int):=of_decide_eq_true (by first|(with_reducible assumption)|assumption);have q104:x18_1<(l0.length:Int):=of_decide_eq_true (by first|(with_reducible assumption)|assumption);obtain ⟨ad104,e104,hx104_0⟩:=Kd.at_int HR0.out x18_1 p104 q104
          cases e104
          replace hx104_0:=(HB.out.cell (aI w _ hx104_0)).trans hx104_0;replace p104:=eq_true p104;replace q104:=eq_true q104;go_wp2
          repeat (go_quiet (fail);try go_wp2)
          go_roundg k1
          case measure=>have:=HK1.out;omega
          case rel=>exact ⟨(x6_1),(wrap64 (x18_1+1)),(by first|rfl|(simp;done)|(simp [*];done)),(by first|rfl|(simp;done)|(simp [*];done)),H',⟨by have:=HK1.out;omega⟩,⟨by (with_reducible repeat (first|apply Kd.Qe|apply Kd.Qd|apply Kd.R_drew));exact HO_8.out⟩,⟨by repeat (first|(with_reducible first|exact HB.out|apply Qc|apply Qa|apply Qb)|exact HB.out)⟩⟩
        ·rw [if_neg c9] at H;exact absurd H (by simp)
       ·rw [if_neg c8] at H;exact absurd H (by simp)
      ·rw [if_neg c7] at H;have c7b0:decide (x18_1<(l0.length:Int))=false:=decide_eq_false c7;clear c7;have H':=aM H;clear H;go_wp2
       repeat (go_quiet (fail);try go_wp2)
       go_loopg [7,38] k1 (fun kq v7 v38 w'=>∃ (x7_2:Int) (x8_2:List Bool) (x38_2:Int),v7= .int .i64 x7_2∧v38= .int .i64 x38_2∧Aside0 (spec_l10Rings.l1 kq l0 l1 x6_1 x7_2 x8_2 (l0.length:Int) x38_2=some (r1,r2))∧Aside0 (kq≤k1)∧Aside0 (Kd.R Kd.bool 4 w' w.heap.size (fun _=>True) v102 x8_2)∧Aside0 (Below w.heap.size w w'))
       case atStart=>exact ⟨(0),(y101),(0),(by first|rfl|(simp;done)|(simp [*];done)),(by first|rfl|(simp;done)|(simp [*];done)),H',⟨Nat.le_refl _⟩,⟨by (with_reducible repeat (first|apply Kd.Qe|apply Kd.Qd|apply Kd.R_drew));exact HO_8.out⟩,⟨by repeat (first|(with_reducible first|exact HB.out|apply Qc|apply Qa|apply Qb)|exact HB.out)⟩⟩
       case round=>
        clear H';(try clear c1);(try clear p1);(try clear q1);(try clear hx1);(try clear p2);(try clear c3);(try clear c3b0);(try clear c3b1);(try clear c4);(try clear c4b0);(try clear c4b1);(try clear p6);(try clear c7);(try clear c7b0);(try clear c8);(try clear c8b0);(try clear c9);(try clear c9b0);(try clear c10);(try clear c10b0);(try clear p10);(try clear q10);(try clear hx10);(try clear c11);(try clear c11b0);(try clear c12);(try clear c12b0);(try clear c12b1);(try clear hx104_0);(try clear hx105_0);(try clear p104);(try clear p105);(try clear p2);(try clear q104);(try clear q105);obtain ⟨x7_2,x8_2,x38_2,rfl,rfl,HA,HK2,HO_8,HB⟩:=hrel
        cases gk with
        |zero=>exact absurd HA.out (by simp [spec_l10Rings.l1])
        |succ k2=>
         have H:=HA.out;clear HA;simp only [spec_l10Rings.l1] at H;by_cases c13:x38_2<(l0.length:Int)
         ·rw [if_pos c13] at H;have c13b0:decide (x38_2<(l0.length:Int))=true:=decide_eq_true c13;clear c13;have H':=aM H;clear H;go_wp2
          repeat (go_quiet (fail);try go_wp2)
          go_loopg [7,12] k2 (fun kq v7 v12 w'=>∃ (x7_3:Int) (x8_3:List Bool) (x12_3:Int),v7= .int .i64 x7_3∧v12= .int .i64 x12_3∧Aside0 (spec_l10Rings.l2 kq l0 l1 x6_1 x7_3 x8_3 x38_2 x12_3 (l0.length:Int) x38_2=some (r1,r2))∧Aside0 (kq≤k2)∧Aside0 (Kd.R Kd.bool 4 w' w.heap.size (fun _=>True) v102 x8_3)∧Aside0 (Below w.heap.size w w'))
          case atStart=>exact ⟨(x7_2),(x8_2),(x38_2),(by first|rfl|(simp;done)|(simp [*];done)),(by first|rfl|(simp;done)|(simp [*];done)),H',⟨Nat.le_refl _⟩,⟨by (with_reducible repeat (first|apply Kd.Qe|apply Kd.Qd|apply Kd.R_drew));exact HO_8.out⟩,⟨by repeat (first|(with_reducible first|exact HB.out|apply Qc|apply Qa|apply Qb)|exact HB.out)⟩⟩
          case round=>
           clear H';(try clear c1);(try clear p1);(try clear q1);(try clear hx1);(try clear p2);(try clear c3);(try clear c3b0);(try clear c3b1);(try clear c4);(try clear c4b0);(try clear c4b1);(try clear p6);(try clear c7);(try clear c7b0);(try clear c8);(try clear c8b0);(try clear c9);(try clear c9b0);(try clear c10);(try clear c10b0);(try clear p10);(try clear q10);(try clear hx10);(try clear c11);(try clear c11b0);(try clear c12);(try clear c12b0);(try clear c12b1);(try clear c13);(try clear c13b0);(try clear hx104_0);(try clear hx105_0);(try clear p1);(try clear p10);(try clear p104);(try clear p105);(try clear p2);(try clear p6);(try clear q1);(try clear q10);(try clear q104);(try clear q105);obtain ⟨x7_3,x8_3,x12_3,rfl,rfl,HA,HK3,HO_8,HB⟩:=hrel
           cases gk with
           |zero=>exact absurd HA.out (by simp [spec_l10Rings.l2])
           |succ k3=>
            have H:=HA.out;clear HA;simp only [spec_l10Rings.l2] at H;have HC14:=aM H;clear H
            go_upto_region 14 with (fail)
            repeat (go_quiet (fail);go_upto_region 14 with (fail))
            go_cut [64] (fun v64 wc=>∃ (kq:Nat) (x64_13:Bool),v64= .bool x64_13∧Aside0 (spec_l10Rings.j3 kq l0 l1 x6_1 x7_3 x8_3 x38_2 x12_3 (l0.length:Int) x38_2 x64_13=some (r1,r2))∧Aside0 (kq≤k3)∧Aside0 (Kd.R Kd.bool 4 wc w.heap.size (fun _=>True) v102 x8_3)∧Aside0 (Below w.heap.size w wc))
            case first=>
             have H:=HC14.out;clear HC14;by_cases c15:0≤x12_3
             ·rw [if_pos c15] at H;have c15b0:decide (0≤x12_3)=true:=decide_eq_true c15;clear c15
              (first|rw [c15b0]|(simp only [i64_w,i32_w];rw [c15b0])|skip)
              by_cases c16:x12_3<(x8_3.length:Int)
              ·rw [if_pos c16] at H;have c16b0:decide (x12_3<(x8_3.length:Int))=true:=decide_eq_true c16;clear c16;obtain ⟨bq17,hbq17⟩:∃ b_:Bool,b_=(rdOf false x8_3 x12_3):=⟨_,rfl⟩;replace H:(if bq17=true then (spec_l10Rings.j3 k3 l0 l1 x6_1 x7_3 x8_3 x38_2 x12_3 (l0.length:Int) x38_2 false) else (if x12_3<(l0.length:Int) then (if (rd l0 x12_3) > 0 then (if x12_3<(l1.length:Int) then (spec_l10Rings.j3 k3 l0 l1 x6_1 x7_3 x8_3 x38_2 x12_3 (l0.length:Int) x38_2 ((rd l1 x12_3) != (rd l0 x12_3))) else (none)) else (spec_l10Rings.j3 k3 l0 l1 x6_1 x7_3 x8_3 x38_2 x12_3 (l0.length:Int) x38_2 false)) else (none)))=some (r1,r2):=by rw [←hbq17] at H;exact H
               have Nbq17:=aM hbq17;clear hbq17;by_cases c18:bq17=true
               ·subst c18;have H1:(spec_l10Rings.j3 k3 l0 l1 x6_1 x7_3 x8_3 x38_2 x12_3 (l0.length:Int) x38_2 false)=some (r1,r2):=by rw [if_pos rfl] at H;exact H
                clear H;have H:=H1;clear H1;have H':=aM H;clear H;obtain ⟨Ao19,co19,eo19⟩:=Kd.R_slice HO_8.out;subst eo19;have p106:0≤(x12_3:Int):=of_decide_eq_true (by first|(with_reducible assumption)|assumption);have q106:x12_3<(x8_3.length:Int):=of_decide_eq_true (by first|(with_reducible assumption)|assumption);obtain ⟨ad106,e106,hx106_0⟩:=Kd.at_bool (Kd.Qf HO_8.out).2.2 x12_3 p106 q106;(try rw [←Nbq17.out] at hx106_0)
                cases e106
                replace p106:=eq_true p106;replace q106:=eq_true q106;go_wp2
                repeat (go_quiet (fail);try go_wp2)
                go_meet
                case rel=>exact ⟨_,(false),(by first|rfl|(simp;done)|(simp [*];done)),H',⟨by have:=HK1.out;have:=HK2.out;have:=HK3.out;first|omega|exact Nat.le_refl _⟩,⟨by (with_reducible repeat (first|apply Kd.Qe|apply Kd.Qd|apply Kd.R_drew));exact HO_8.out⟩,⟨by repeat (first|(with_reducible first|exact HB.out|apply Qc|apply Qa|apply Qb)|exact HB.out)⟩⟩
               ·replace c18:=Bool.eq_false_iff.mpr c18;subst c18;have H1:(if x12_3<(l0.length:Int) then (if (rd l0 x12_3) > 0 then (if x12_3<(l1.length:Int) then (spec_l10Rings.j3 k3 l0 l1 x6_1 x7_3 x8_3 x38_2 x12_3 (l0.length:Int) x38_2 ((rd l1 x12_3) != (rd l0 x12_3))) else (none)) else (spec_l10Rings.j3 k3 l0 l1 x6_1 x7_3 x8_3 x38_2 x12_3 (l0.length:Int) x38_2 false)) else (none))=some (r1,r2):=by rw [if_neg (show ¬ (false=true) by decide)] at H;exact H
                clear H;have H:=H1;clear H1;by_cases c20:x12_3<(l0.length:Int)
                ·rw [if_pos c20] at H;have c20b0:decide (x12_3<(l0.length:Int))=true:=decide_eq_true c20;clear c20;by_cases c21:(rd l0 x12_3) > 0
                 ·rw [if_pos c21] at H;have c21b0:decide (0<(rd l0 x12_3))=true:=decide_eq_true c21;clear c21;by_cases c22:x12_3<(l1.length:Int)
                  ·rw [if_pos c22] at H;have c22b0:decide (x12_3<(l1.length:Int))=true:=decide_eq_true c22;clear c22;have H':=aM H;clear H;obtain ⟨Ao23,co23,eo23⟩:=Kd.R_slice HO_8.out;subst eo23;have p106:0≤(x12_3:Int):=of_decide_eq_true (by first|(with_reducible assumption)|assumption);have q106:x12_3<(x8_3.length:Int):=of_decide_eq_true (by first|(with_reducible assumption)|assumption);obtain ⟨ad106,e106,hx106_0⟩:=Kd.at_bool (Kd.Qf HO_8.out).2.2 x12_3 p106 q106;(try rw [←Nbq17.out] at hx106_0)
                   cases e106
                   replace p106:=eq_true p106;replace q106:=eq_true q106;have p107:0≤(x12_3:Int):=of_decide_eq_true (by first|(with_reducible assumption)|assumption);have q107:x12_3<(l0.length:Int):=of_decide_eq_true (by first|(with_reducible assumption)|assumption);obtain ⟨ad107,e107,hx107_0⟩:=Kd.at_int HR0.out x12_3 p107 q107
                   cases e107
                   replace hx107_0:=(HB.out.cell (aI w _ hx107_0)).trans hx107_0;replace p107:=eq_true p107;replace q107:=eq_true q107;have p108:0≤(x12_3:Int):=of_decide_eq_true (by first|(with_reducible assumption)|assumption);have q108:x12_3<(l1.length:Int):=of_decide_eq_true (by first|(with_reducible assumption)|assumption);obtain ⟨ad108,e108,hx108_0⟩:=Kd.at_int HR1.out x12_3 p108 q108
                   cases e108
                   replace hx108_0:=(HB.out.cell (aI w _ hx108_0)).trans hx108_0;replace p108:=eq_true p108;replace q108:=eq_true q108;have p109:0≤(x12_3:Int):=of_decide_eq_true (by first|(with_reducible assumption)|assumption);have q109:x12_3<(l0.length:Int):=of_decide_eq_true (by first|(with_reducible assumption)|assumption);obtain ⟨ad109,e109,hx109_0⟩:=Kd.at_int HR0.out x12_3 p109 q109;obtain rfl:ad107=ad109:=(by injection e109);replace hx109_0:=(HB.out.cell (aI w _ hx109_0)).trans hx109_0;replace p109:=eq_true p109;replace q109:=eq_true q109;go_wp2
                   repeat (go_quiet (fail);try go_wp2)
                   go_meet
                   case rel=>exact ⟨_,(((rd l1 x12_3) != (rd l0 x12_3))),(by first|rfl|(simp;done)|(simp [*];done)),H',⟨by have:=HK1.out;have:=HK2.out;have:=HK3.out;first|omega|exact Nat.le_refl _⟩,⟨by (with_reducible repeat (first|apply Kd.Qe|apply Kd.Qd|apply Kd.R_drew));exact HO_8.out⟩,⟨by repeat (first|(with_reducible first|exact HB.out|apply Qc|apply Qa|apply Qb)|exact HB.out)⟩⟩
                  ·rw [if_neg c22] at H;exact absurd H (by simp)
                 ·rw [if_neg c21] at H;have c21b0:decide (0<(rd l0 x12_3))=false:=decide_eq_false c21;clear c21;have H':=aM H;clear H;obtain ⟨Ao24,co24,eo24⟩:=Kd.R_slice HO_8.out;subst eo24;have p106:0≤(x12_3:Int):=of_decide_eq_true (by first|(with_reducible assumption)|assumption);have q106:x12_3<(x8_3.length:Int):=of_decide_eq_true (by first|(with_reducible assumption)|assumption);obtain ⟨ad106,e106,hx106_0⟩:=Kd.at_bool (Kd.Qf HO_8.out).2.2 x12_3 p106 q106;(try rw [←Nbq17.out] at hx106_0)
                  cases e106
                  replace p106:=eq_true p106;replace q106:=eq_true q106;have p107:0≤(x12_3:Int):=of_decide_eq_true (by first|(with_reducible assumption)|assumption);have q107:x12_3<(l0.length:Int):=of_decide_eq_true (by first|(with_reducible assumption)|assumption);obtain ⟨ad107,e107,hx107_0⟩:=Kd.at_int HR0.out x12_3 p107 q107
                  cases e107
                  replace hx107_0:=(HB.out.cell (aI w _ hx107_0)).trans hx107_0;replace p107:=eq_true p107;replace q107:=eq_true q107;go_wp2
                  repeat (go_quiet (fail);try go_wp2)
                  go_meet
                  case rel=>exact ⟨_,(false),(by first|rfl|(simp;done)|(simp [*];done)),H',⟨by have:=HK1.out;have:=HK2.out;have:=HK3.out;first|omega|exact Nat.le_refl _⟩,⟨by (with_reducible repeat (first|apply Kd.Qe|apply Kd.Qd|apply Kd.R_drew));exact HO_8.out⟩,⟨by repeat (first|(with_reducible first|exact HB.out|apply Qc|apply Qa|apply Qb)|exact HB.out)⟩⟩
                ·rw [if_neg c20] at H;exact absurd H (by simp)
              ·rw [if_neg c16] at H;exact absurd H (by simp)
             ·rw [if_neg c15] at H;exact absurd H (by simp)
            case rest=>
             clear HC14;(try clear c1);(try clear p1);(try clear q1);(try clear hx1);(try clear c2);(try clear p2);(try clear c3);(try clear c3b0);(try clear c3b1);(try clear c4);(try clear c4b0);(try clear c4b1);(try clear p6);(try clear c7);(try clear c7b0);(try clear c8);(try clear c8b0);(try clear c9);(try clear c9b0);(try clear c10);(try clear c10b0);(try clear p10);(try clear q10);(try clear hx10);(try clear c11);(try clear c11b0);(try clear c12);(try clear c12b0);(try clear c12b1);(try clear c13);(try clear c13b0);(try clear c15);(try clear c15b0);(try clear c16);(try clear c16b0);(try clear q17);(try clear c18);(try clear c20);(try clear c20b0);(try clear c21);(try clear c21b0);(try clear c22);(try clear c22b0);(try clear hx104_0);(try clear hx105_0);(try clear hx106_0);(try clear hx107_0);(try clear hx108_0);(try clear hx109_0);(try clear p1);(try clear p10);(try clear p104);(try clear p105);(try clear p106);(try clear p107);(try clear p108);(try clear p109);(try clear p2);(try clear p6);(try clear q1);(try clear q10);(try clear q104);(try clear q105);(try clear q106);(try clear q107);(try clear q108);(try clear q109);obtain ⟨kq,x64_13,rfl,HA,HJ13,HO_8,HB⟩:=hcut
             cases kq with
             |zero=>exact absurd HA.out (by simp [spec_l10Rings.j3])
             |succ kj13=>
              have H:=HA.out;clear HA;simp only [spec_l10Rings.j3] at H;by_cases c25:x64_13=true
              ·subst c25;have H1:(if 0≤x12_3 then (if x12_3<(x8_3.length:Int) then ((some (x8_3.set (x12_3:Int).toNat true:List Bool)).bind fun y110=>(if x12_3<(l0.length:Int) then ((spec_l10Spot.f kj13 l1 (rd l0 x12_3)).bind fun t112=>(if t112=x38_2 then (spec_l10Rings.l2 kj13 l0 l1 x6_1 (wrap64 (x7_3+1)) y110 x38_2 t112 (l0.length:Int) x38_2) else (spec_l10Rings.l2 kj13 l0 l1 x6_1 x7_3 y110 x38_2 t112 (l0.length:Int) x38_2))) else (none))) else (none)) else (none))=some (r1,r2):=by rw [if_pos rfl] at H;exact H
               clear H;have H:=H1;clear H1;by_cases c26:0≤x12_3
               ·rw [if_pos c26] at H;have c26b0:decide (0≤x12_3)=true:=decide_eq_true c26;clear c26;by_cases c27:x12_3<(x8_3.length:Int)
                ·rw [if_pos c27] at H;have c27b0:decide (x12_3<(x8_3.length:Int))=true:=decide_eq_true c27;clear c27;obtain ⟨y110,hy110⟩:∃ y_:List Bool,y_=(x8_3.set (x12_3:Int).toNat true):=⟨_,rfl⟩;replace H:(if x12_3<(l0.length:Int) then ((spec_l10Spot.f kj13 l1 (rd l0 x12_3)).bind fun t112=>(if t112=x38_2 then (spec_l10Rings.l2 kj13 l0 l1 x6_1 (wrap64 (x7_3+1)) y110 x38_2 t112 (l0.length:Int) x38_2) else (spec_l10Rings.l2 kj13 l0 l1 x6_1 x7_3 y110 x38_2 t112 (l0.length:Int) x38_2))) else (none))=some (r1,r2):=by first|(rw [hy110];with_reducible exact H)|(have H2_:=(Option.bind_some _ _).symm.trans H;rw [hy110];with_reducible exact H2_)|(have H2_:=(Option.bind_some _ _).symm.trans H;with_reducible exact H2_)|with_reducible exact H|(rw [hy110];exact H)|exact H
                 have Ny110:=aM hy110;clear hy110;by_cases c29:x12_3<(l0.length:Int)
                 ·rw [if_pos c29] at H;have c29b0:decide (x12_3<(l0.length:Int))=true:=decide_eq_true c29;clear c29;replace H:=Option.bind_eq_some_iff.mp H;obtain ⟨t112,A300,H⟩:=H;replace H:(if t112=x38_2 then (spec_l10Rings.l2 kj13 l0 l1 x6_1 (wrap64 (x7_3+1)) y110 x38_2 t112 (l0.length:Int) x38_2) else (spec_l10Rings.l2 kj13 l0 l1 x6_1 x7_3 y110 x38_2 t112 (l0.length:Int) x38_2))=some (r1,r2):=H;have A30:=aM A300;clear A300;by_cases c31:t112=x38_2
                  ·rw [if_pos c31] at H;have c31b0:(t112 == x38_2)=true:=beq_iff_eq.mpr c31;have c31b1:(t112 != x38_2)=false:=bne_eq_false_iff_eq.mpr c31;clear c31;have H':=aM H;clear H;have p28:0≤(x12_3:Int):=of_decide_eq_true (by first|(with_reducible assumption)|assumption);have q28:(x12_3:Int)<((x8_3.length:Int):Int):=of_decide_eq_true (by first|(with_reducible assumption)|assumption);obtain ⟨go28,co28,eo28,gb28,gl28,cl28,HG28⟩:=Kd.R_form HO_8.out (by omega)
                   (first|cases eo28|(injection eo28 with ea_ en_ ec_;(first|subst ea_|(injection ea_ with ea_;subst ea_));subst ec_;clear en_))
                   have GB28:=aM gb28;have GG28:=aM HG28;clear gb28 gl28 HG28;obtain ⟨hx28_0,hf28_0⟩:=Kd.R_celln false HO_8.out (x12_3:Int) p28 q28;replace p28:=eq_true p28;replace q28:=eq_true q28;have HP32:=Kd.R_putg HO_8.out (x12_3:Int) true;go_wp2_with (first|((with_reducible refine gate_store (t:=4) (p:=67) rfl ?_);(try (rw [drewN_self wc];generalize hq_:World.drewN wc _=wc;have n0_:=aM (Kd.R_at hq_ HO_8.out);have n1_:=aM (below_at hq_ HB.out);clear hq_ HO_8 HB;have HO_8:=n0_;have HB:=n1_;clear n0_ n1_;(try (have HP32:=Kd.R_putg HO_8.out (x12_3:Int) true))));refine store_event (t:=4) (p:=67) (v:=?vo_w33) (w1:=(wc.setCell ⟨go28,(x12_3:Int).toNat,none⟩ (.bool true))) ?hg ?ho ?hn ?hr ?_;(case ho=>rfl);(case hg=>rfl);(case hn=>rfl);(case hr=>first|(go_simp;done)|(go_simp;rfl));intro w33 hw;have hg:wc.grownBy w33 (some go28):=(by rw [hw];exact HP32.2);have hp_:Kd.R Kd.bool 4 w33 w.heap.size (fun _=>True) (.slice (some ⟨go28,0,none⟩) x8_3.length co28) y110:=(by rw [hw,Ny110.out];exact HP32.1);clear HP32;have n0_:=aM (hp_);have n1_:=aM ((by rw [hw];exact Qg (HB.out) GB28.out:Below w.heap.size w w33));clear HO_8;clear HB;have HO_8:=n0_;have HB:=n1_;clear n0_ n1_;clear hg hw hp_;have p111:0≤(x12_3:Int):=of_decide_eq_true (by first|(with_reducible assumption)|assumption);have q111:x12_3<(l0.length:Int):=of_decide_eq_true (by first|(with_reducible assumption)|assumption);obtain ⟨ad111,e111,hx111_0⟩:=Kd.at_int HR0.out x12_3 p111 q111;cases e111;replace hx111_0:=(HB.out.cell (aI w _ hx111_0)).trans hx111_0;replace p111:=eq_true p111;replace q111:=eq_true q111)|(go_at_call 249;(with_reducible refine (spec_l10Spot.calls kj13 _ _ l1 (rd l0 x12_3) t112 _ ?side1 ?side2 A30.out).mono ?_);(case side1=>repeat (first|exact (Kd.C_below HR1.out HB.out)|(with_reducible refine Kd.C_alloc ?_ _)|(with_reducible refine Kd.C_drewN ?_ _)|(with_reducible refine Kd.C_drew ?_)));(case side2=>exact HC1.out);rintro e w' ⟨rfl,⟨nd,rfl⟩⟩;(try first|exact ⟨rfl,_,World.drewN_drewN _ _ _⟩|exact ⟨rfl,_,Eq.trans (World.drewN_drewN _ _ _) (congrArg (World.drewN _) (Nat.add_assoc _ _ _))⟩)))
                   repeat (go_quiet (first|((with_reducible refine gate_store (t:=4) (p:=67) rfl ?_);(try (rw [drewN_self wc];generalize hq_:World.drewN wc _=wc;have n0_:=aM (Kd.R_at hq_ HO_8.out);have n1_:=aM (below_at hq_ HB.out);clear hq_ HO_8 HB;have HO_8:=n0_;have HB:=n1_;clear n0_ n1_;(try (have HP32:=Kd.R_putg HO_8.out (x12_3:Int) true))));refine store_event (t:=4) (p:=67) (v:=?vo_w33) (w1:=(wc.setCell ⟨go28,(x12_3:Int).toNat,none⟩ (.bool true))) ?hg ?ho ?hn ?hr ?_;(case ho=>rfl);(case hg=>rfl);(case hn=>rfl);(case hr=>first|(go_simp;done)|(go_simp;rfl));intro w33 hw;have hg:wc.grownBy w33 (some go28):=(by rw [hw];exact HP32.2);have hp_:Kd.R Kd.bool 4 w33 w.heap.size (fun _=>True) (.slice (some ⟨go28,0,none⟩) x8_3.length co28) y110:=(by rw [hw,Ny110.out];exact HP32.1);clear HP32;have n0_:=aM (hp_);have n1_:=aM ((by rw [hw];exact Qg (HB.out) GB28.out:Below w.heap.size w w33));clear HO_8;clear HB;have HO_8:=n0_;have HB:=n1_;clear n0_ n1_;clear hg hw hp_;have p111:0≤(x12_3:Int):=of_decide_eq_true (by first|(with_reducible assumption)|assumption);have q111:x12_3<(l0.length:Int):=of_decide_eq_true (by first|(with_reducible assumption)|assumption);obtain ⟨ad111,e111,hx111_0⟩:=Kd.at_int HR0.out x12_3 p111 q111;cases e111;replace hx111_0:=(HB.out.cell (aI w _ hx111_0)).trans hx111_0;replace p111:=eq_true p111;replace q111:=eq_true q111)|(go_at_call 249;(with_reducible refine (spec_l10Spot.calls kj13 _ _ l1 (rd l0 x12_3) t112 _ ?side1 ?side2 A30.out).mono ?_);(case side1=>repeat (first|exact (Kd.C_below HR1.out HB.out)|(with_reducible refine Kd.C_alloc ?_ _)|(with_reducible refine Kd.C_drewN ?_ _)|(with_reducible refine Kd.C_drew ?_)));(case side2=>exact HC1.out);rintro e w' ⟨rfl,⟨nd,rfl⟩⟩;(try first|exact ⟨rfl,_,World.drewN_drewN _ _ _⟩|exact ⟨rfl,_,Eq.trans (World.drewN_drewN _ _ _) (congrArg (World.drewN _) (Nat.add_assoc _ _ _))⟩)));try go_wp2_with (first|((with_reducible refine gate_store (t:=4) (p:=67) rfl ?_);(try (rw [drewN_self wc];generalize hq_:World.drewN wc _=wc;have n0_:=aM (Kd.R_at hq_ HO_8.out);have n1_:=aM (below_at hq_ HB.out);clear hq_ HO_8 HB;have HO_8:=n0_;have HB:=n1_;clear n0_ n1_;(try (have HP32:=Kd.R_putg HO_8.out (x12_3:Int) true))));refine store_event (t:=4) (p:=67) (v:=?vo_w33) (w1:=(wc.setCell ⟨go28,(x12_3:Int).toNat,none⟩ (.bool true))) ?hg ?ho ?hn ?hr ?_;(case ho=>rfl);(case hg=>rfl);(case hn=>rfl);(case hr=>first|(go_simp;done)|(go_simp;rfl));intro w33 hw;have hg:wc.grownBy w33 (some go28):=(by rw [hw];exact HP32.2);have hp_:Kd.R Kd.bool 4 w33 w.heap.size (fun _=>True) (.slice (some ⟨go28,0,none⟩) x8_3.length co28) y110:=(by rw [hw,Ny110.out];exact HP32.1);clear HP32;have n0_:=aM (hp_);have n1_:=aM ((by rw [hw];exact Qg (HB.out) GB28.out:Below w.heap.size w w33));clear HO_8;clear HB;have HO_8:=n0_;have HB:=n1_;clear n0_ n1_;clear hg hw hp_;have p111:0≤(x12_3:Int):=of_decide_eq_true (by first|(with_reducible assumption)|assumption);have q111:x12_3<(l0.length:Int):=of_decide_eq_true (by first|(with_reducible assumption)|assumption);obtain ⟨ad111,e111,hx111_0⟩:=Kd.at_int HR0.out x12_3 p111 q111;cases e111;replace hx111_0:=(HB.out.cell (aI w _ hx111_0)).trans hx111_0;replace p111:=eq_true p111;replace q111:=eq_true q111)|(go_at_call 249;(with_reducible refine (spec_l10Spot.calls kj13 _ _ l1 (rd l0 x12_3) t112 _ ?side1 ?side2 A30.out).mono ?_);(case side1=>repeat (first|exact (Kd.C_below HR1.out HB.out)|(with_reducible refine Kd.C_alloc ?_ _)|(with_reducible refine Kd.C_drewN ?_ _)|(with_reducible refine Kd.C_drew ?_)));(case side2=>exact HC1.out);rintro e w' ⟨rfl,⟨nd,rfl⟩⟩;(try first|exact ⟨rfl,_,World.drewN_drewN _ _ _⟩|exact ⟨rfl,_,Eq.trans (World.drewN_drewN _ _ _) (congrArg (World.drewN _) (Nat.add_assoc _ _ _))⟩))))
                   go_roundg kj13
                   case measure=>have:=HK1.out;have:=HK2.out;have:=HK3.out;have:=HJ13.out;omega
                   case rel=>exact ⟨(wrap64 (x7_3+1)),(y110),(t112),(by first|rfl|(simp;done)|(simp [*];done)),(by first|rfl|(simp;done)|(simp [*];done)),H',⟨by have:=HK1.out;have:=HK2.out;have:=HK3.out;have:=HJ13.out;omega⟩,⟨by (with_reducible repeat (first|apply Kd.Qe|apply Kd.Qd|apply Kd.R_drew));exact HO_8.out⟩,⟨by repeat (first|(with_reducible first|exact HB.out|apply Qc|apply Qa|apply Qb)|exact HB.out)⟩⟩
                  ·rw [if_neg c31] at H;have c31b0:(t112 == x38_2)=false:=beq_eq_false_iff_ne.mpr c31;have c31b1:(t112 != x38_2)=true:=bne_iff_ne.mpr c31;have H':=aM H;clear H;have p28:0≤(x12_3:Int):=of_decide_eq_true (by first|(with_reducible assumption)|assumption);have q28:(x12_3:Int)<((x8_3.length:Int):Int):=of_decide_eq_true (by first|(with_reducible assumption)|assumption);obtain ⟨go28,co28,eo28,gb28,gl28,cl28,HG28⟩:=Kd.R_form HO_8.out (by omega)
                   (first|cases eo28|(injection eo28 with ea_ en_ ec_;(first|subst ea_|(injection ea_ with ea_;subst ea_));subst ec_;clear en_))
                   have GB28:=aM gb28;have GG28:=aM HG28;clear gb28 gl28 HG28;obtain ⟨hx28_0,hf28_0⟩:=Kd.R_celln false HO_8.out (x12_3:Int) p28 q28;replace p28:=eq_true p28;replace q28:=eq_true q28;have HP34:=Kd.R_putg HO_8.out (x12_3:Int) true;go_wp2_with (first|((with_reducible refine gate_store (t:=4) (p:=67) rfl ?_);(try (rw [drewN_self wc];generalize hq_:World.drewN wc _=wc;have n0_:=aM (Kd.R_at hq_ HO_8.out);have n1_:=aM (below_at hq_ HB.out);clear hq_ HO_8 HB;have HO_8:=n0_;have HB:=n1_;clear n0_ n1_;(try (have HP34:=Kd.R_putg HO_8.out (x12_3:Int) true))));refine store_event (t:=4) (p:=67) (v:=?vo_w35) (w1:=(wc.setCell ⟨go28,(x12_3:Int).toNat,none⟩ (.bool true))) ?hg ?ho ?hn ?hr ?_;(case ho=>rfl);(case hg=>rfl);(case hn=>rfl);(case hr=>first|(go_simp;done)|(go_simp;rfl));intro w35 hw;have hg:wc.grownBy w35 (some go28):=(by rw [hw];exact HP34.2);have hp_:Kd.R Kd.bool 4 w35 w.heap.size (fun _=>True) (.slice (some ⟨go28,0,none⟩) x8_3.length co28) y110:=(by rw [hw,Ny110.out];exact HP34.1);clear HP34;have n0_:=aM (hp_);have n1_:=aM ((by rw [hw];exact Qg (HB.out) GB28.out:Below w.heap.size w w35));clear HO_8;clear HB;have HO_8:=n0_;have HB:=n1_;clear n0_ n1_;clear hg hw hp_;have p111:0≤(x12_3:Int):=of_decide_eq_true (by first|(with_reducible assumption)|assumption);have q111:x12_3<(l0.length:Int):=of_decide_eq_true (by first|(with_reducible assumption)|assumption);obtain ⟨ad111,e111,hx111_0⟩:=Kd.at_int HR0.out x12_3 p111 q111;cases e111;replace hx111_0:=(HB.out.cell (aI w _ hx111_0)).trans hx111_0;replace p111:=eq_true p111;replace q111:=eq_true q111)|(go_at_call 249;(with_reducible refine (spec_l10Spot.calls kj13 _ _ l1 (rd l0 x12_3) t112 _ ?side1 ?side2 A30.out).mono ?_);(case side1=>repeat (first|exact (Kd.C_below HR1.out HB.out)|(with_reducible refine Kd.C_alloc ?_ _)|(with_reducible refine Kd.C_drewN ?_ _)|(with_reducible refine Kd.C_drew ?_)));(case side2=>exact HC1.out);rintro e w' ⟨rfl,⟨nd,rfl⟩⟩;(try first|exact ⟨rfl,_,World.drewN_drewN _ _ _⟩|exact ⟨rfl,_,Eq.trans (World.drewN_drewN _ _ _) (congrArg (World.drewN _) (Nat.add_assoc _ _ _))⟩)))
                   repeat (go_quiet (first|((with_reducible refine gate_store (t:=4) (p:=67) rfl ?_);(try (rw [drewN_self wc];generalize hq_:World.drewN wc _=wc;have n0_:=aM (Kd.R_at hq_ HO_8.out);have n1_:=aM (below_at hq_ HB.out);clear hq_ HO_8 HB;have HO_8:=n0_;have HB:=n1_;clear n0_ n1_;(try (have HP34:=Kd.R_putg HO_8.out (x12_3:Int) true))));refine store_event (t:=4) (p:=67) (v:=?vo_w35) (w1:=(wc.setCell ⟨go28,(x12_3:Int).toNat,none⟩ (.bool true))) ?hg ?ho ?hn ?hr ?_;(case ho=>rfl);(case hg=>rfl);(case hn=>rfl);(case hr=>first|(go_simp;done)|(go_simp;rfl));intro w35 hw;have hg:wc.grownBy w35 (some go28):=(by rw [hw];exact HP34.2);have hp_:Kd.R Kd.bool 4 w35 w.heap.size (fun _=>True) (.slice (some ⟨go28,0,none⟩) x8_3.length co28) y110:=(by rw [hw,Ny110.out];exact HP34.1);clear HP34;have n0_:=aM (hp_);have n1_:=aM ((by rw [hw];exact Qg (HB.out) GB28.out:Below w.heap.size w w35));clear HO_8;clear HB;have HO_8:=n0_;have HB:=n1_;clear n0_ n1_;clear hg hw hp_;have p111:0≤(x12_3:Int):=of_decide_eq_true (by first|(with_reducible assumption)|assumption);have q111:x12_3<(l0.length:Int):=of_decide_eq_true (by first|(with_reducible assumption)|assumption);obtain ⟨ad111,e111,hx111_0⟩:=Kd.at_int HR0.out x12_3 p111 q111;cases e111;replace hx111_0:=(HB.out.cell (aI w _ hx111_0)).trans hx111_0;replace p111:=eq_true p111;replace q111:=eq_true q111)|(go_at_call 249;(with_reducible refine (spec_l10Spot.calls kj13 _ _ l1 (rd l0 x12_3) t112 _ ?side1 ?side2 A30.out).mono ?_);(case side1=>repeat (first|exact (Kd.C_below HR1.out HB.out)|(with_reducible refine Kd.C_alloc ?_ _)|(with_reducible refine Kd.C_drewN ?_ _)|(with_reducible refine Kd.C_drew ?_)));(case side2=>exact HC1.out);rintro e w' ⟨rfl,⟨nd,rfl⟩⟩;(try first|exact ⟨rfl,_,World.drewN_drewN _ _ _⟩|exact ⟨rfl,_,Eq.trans (World.drewN_drewN _ _ _) (congrArg (World.drewN _) (Nat.add_assoc _ _ _))⟩)));try go_wp2_with (first|((with_reducible refine gate_store (t:=4) (p:=67) rfl ?_);(try (rw [drewN_self wc];generalize hq_:World.drewN wc _=wc;have n0_:=aM (Kd.R_at hq_ HO_8.out);have n1_:=aM (below_at hq_ HB.out);clear hq_ HO_8 HB;have HO_8:=n0_;have HB:=n1_;clear n0_ n1_;(try (have HP34:=Kd.R_putg HO_8.out (x12_3:Int) true))));refine store_event (t:=4) (p:=67) (v:=?vo_w35) (w1:=(wc.setCell ⟨go28,(x12_3:Int).toNat,none⟩ (.bool true))) ?hg ?ho ?hn ?hr ?_;(case ho=>rfl);(case hg=>rfl);(case hn=>rfl);(case hr=>first|(go_simp;done)|(go_simp;rfl));intro w35 hw;have hg:wc.grownBy w35 (some go28):=(by rw [hw];exact HP34.2);have hp_:Kd.R Kd.bool 4 w35 w.heap.size (fun _=>True) (.slice (some ⟨go28,0,none⟩) x8_3.length co28) y110:=(by rw [hw,Ny110.out];exact HP34.1);clear HP34;have n0_:=aM (hp_);have n1_:=aM ((by rw [hw];exact Qg (HB.out) GB28.out:Below w.heap.size w w35));clear HO_8;clear HB;have HO_8:=n0_;have HB:=n1_;clear n0_ n1_;clear hg hw hp_;have p111:0≤(x12_3:Int):=of_decide_eq_true (by first|(with_reducible assumption)|assumption);have q111:x12_3<(l0.length:Int):=of_decide_eq_true (by first|(with_reducible assumption)|assumption);obtain ⟨ad111,e111,hx111_0⟩:=Kd.at_int HR0.out x12_3 p111 q111;cases e111;replace hx111_0:=(HB.out.cell (aI w _ hx111_0)).trans hx111_0;replace p111:=eq_true p111;replace q111:=eq_true q111)|(go_at_call 249;(with_reducible refine (spec_l10Spot.calls kj13 _ _ l1 (rd l0 x12_3) t112 _ ?side1 ?side2 A30.out).mono ?_);(case side1=>repeat (first|exact (Kd.C_below HR1.out HB.out)|(with_reducible refine Kd.C_alloc ?_ _)|(with_reducible refine Kd.C_drewN ?_ _)|(with_reducible refine Kd.C_drew ?_)));(case side2=>exact HC1.out);rintro e w' ⟨rfl,⟨nd,rfl⟩⟩;(try first|exact ⟨rfl,_,World.drewN_drewN _ _ _⟩|exact ⟨rfl,_,Eq.trans (World.drewN_drewN _ _ _) (congrArg (World.drewN _) (Nat.add_assoc _ _ _))⟩))))
                   go_roundg kj13
                   case measure=>have:=HK1.out;have:=HK2.out;have:=HK3.out;have:=HJ13.out;omega
                   case rel=>exact ⟨(x7_3),(y110),(t112),(by first|rfl|(simp;done)|(simp [*];done)),(by first|rfl|(simp;done)|(simp [*];done)),H',⟨by have:=HK1.out;have:=HK2.out;have:=HK3.out;have:=HJ13.out;omega⟩,⟨by (with_reducible repeat (first|apply Kd.Qe|apply Kd.Qd|apply Kd.R_drew));exact HO_8.out⟩,⟨by repeat (first|(with_reducible first|exact HB.out|apply Qc|apply Qa|apply Qb)|exact HB.out)⟩⟩
                 ·rw [if_neg c29] at H;exact absurd H (by simp)
                ·rw [if_neg c27] at H;exact absurd H (by simp)
               ·rw [if_neg c26] at H;exact absurd H (by simp)
              ·replace c25:=Bool.eq_false_iff.mpr c25;subst c25;have H1:(spec_l10Rings.l1 kj13 l0 l1 x6_1 x7_3 x8_3 (l0.length:Int) (wrap64 (x38_2+1)))=some (r1,r2):=by rw [if_neg (show ¬ (false=true) by decide)] at H;exact H
               clear H;have H:=H1;clear H1;have H':=aM H;clear H;go_wp2
               repeat (go_quiet (fail);try go_wp2)
               go_roundg kj13
               case measure=>have:=HK1.out;have:=HK2.out;have:=HK3.out;have:=HJ13.out;omega
               case rel=>exact ⟨(x7_3),(x8_3),(wrap64 (x38_2+1)),(by first|rfl|(simp;done)|(simp [*];done)),(by first|rfl|(simp;done)|(simp [*];done)),H',⟨by have:=HK1.out;have:=HK2.out;have:=HK3.out;have:=HJ13.out;omega⟩,⟨by (with_reducible repeat (first|apply Kd.Qe|apply Kd.Qd|apply Kd.R_drew));exact HO_8.out⟩,⟨by repeat (first|(with_reducible first|exact HB.out|apply Qc|apply Qa|apply Qb)|exact HB.out)⟩⟩
         ·rw [if_neg c13] at H;have c13b0:decide (x38_2<(l0.length:Int))=false:=decide_eq_false c13;clear c13;simp only [Option.some.injEq,Prod.mk.injEq] at H;obtain ⟨rfl,rfl⟩:=H;go_wp2
          repeat (go_quiet (fail);try go_wp2)
          go_ret2
          exact ⟨by first|rfl|(simp [errW_none,errW_some] <;> rfl)|(simp [*,errW_none,errW_some] <;> rfl),by repeat (first|(with_reducible first|exact HB.out|apply Qc|apply Qa|apply Qb)|exact HB.out)⟩
   ·rw [if_neg c4] at H;exact absurd H (by simp)
  ·rw [if_neg c3] at H;exact absurd H (by simp)

def spec_RingsOf.f (k:Nat) (l0:List Int) (l1:List Int):Option (Int×Int×Bool):=(spec_l10Both.f k l0 l1).bind fun t101=>(if t101=true then ((spec_l10Rings.f k l0 l1).bind fun bt102=>(some (bt102.1,bt102.2,true))) else (some (0,0,false)))
set_option maxHeartbeats 8000000 in
set_option maxRecDepth 100000 in
theorem spec_RingsOf.calls (k:Nat) (A0:Option Addr) (c0:Nat) (l0:List Int) (A1:Option Addr) (c1:Nat) (l1:List Int) (r1:Int) (r2:Int) (r3:Bool) (w:World) (hr0:Kd.C (Kd.int .i64) w A0 l0.length l0) (hc0:l0.length≤c0) (hr1:Kd.C (Kd.int .i64) w A1 l1.length l1) (hc1:l1.length≤c1) (h:spec_RingsOf.f k l0 l1=some (r1,r2,r3)) :
    Calls Try.prog 52 #[.slice A0 l0.length c0,.slice A1 l1.length c1] w fun e w'=>e= .returned (.tuple #[.int .i64 r1,.int .i64 r2,.bool r3])∧Below w.heap.size w w':=by
  have HR0:=aM hr0;have HC0:=aM hc0;clear hr0 hc0;have HR1:=aM hr1;have HC1:=aM hc1;clear hr1 hc1;have HB:=aM (Below.refl w.heap.size w);have H:((spec_l10Both.f k l0 l1).bind fun t101=>(if t101=true then ((spec_l10Rings.f k l0 l1).bind fun bt102=>(some (bt102.1,bt102.2,true))) else (some (0,0,false))))=some (r1,r2,r3):=h;clear h;replace H:=Option.bind_eq_some_iff.mp H;obtain ⟨t101,A30,H⟩:=H;replace H:(if t101=true then ((spec_l10Rings.f k l0 l1).bind fun bt102=>(some (bt102.1,bt102.2,true))) else (some (0,0,false)))=some (r1,r2,r3):=H;have A3:=aM A30;clear A30;by_cases c4:t101=true
  ·subst c4;have H1:((spec_l10Rings.f k l0 l1).bind fun bt102=>(some (bt102.1,bt102.2,true)))=some (r1,r2,r3):=by rw [if_pos rfl] at H;exact H
   clear H;have H:=H1;clear H1;replace H:=Option.bind_eq_some_iff.mp H;obtain ⟨⟨t102,t103⟩,A50,H⟩:=H;replace H:(some (t102,t103,true))=some (r1,r2,r3):=H;have A5:=aM A50;clear A50;simp only [Option.some.injEq,Prod.mk.injEq] at H;obtain ⟨rfl,rfl,rfl⟩:=H;go_enter Try.func52,Try.ntmps52;go_wp2_with (first|((with_reducible refine Qh (f:=188) rfl ?_);refine goesL_ (some 11) rfl rfl Try.func188 (by kernel_rfl) rfl #[.slice A0 l0.length c0,.slice A1 l1.length c1] rfl (by (try simp only [aD,aE,aF]);first|done|rfl|(simp only [aG,aH];rfl)) ?_;(with_reducible refine (spec_l10Both.calls k _ _ l0 _ _ l1 true _ ?side1 ?side2 ?side3 ?side4 A3.out).mono ?_);(case side1=>repeat (first|exact HR0.out|(with_reducible refine Kd.C_alloc ?_ _)|(with_reducible refine Kd.C_drewN ?_ _)|(with_reducible refine Kd.C_drew ?_)));(case side2=>exact HC0.out);(case side3=>repeat (first|exact HR1.out|(with_reducible refine Kd.C_alloc ?_ _)|(with_reducible refine Kd.C_drewN ?_ _)|(with_reducible refine Kd.C_drew ?_)));(case side4=>exact HC1.out);rintro e w' ⟨rfl,⟨nd,rfl⟩⟩;refine ⟨_,rfl,?_⟩)|((with_reducible refine Qh (f:=189) rfl ?_);refine goesL_ (some 16) rfl rfl Try.func189 (by kernel_rfl) rfl #[.slice A0 l0.length c0,.slice A1 l1.length c1] rfl (by (try simp only [aD,aE,aF]);first|done|rfl|(simp only [aG,aH];rfl)) ?_;(with_reducible refine (spec_l10Rings.calls k _ _ l0 _ _ l1 t102 t103 _ ?side1 ?side2 ?side3 ?side4 A5.out).mono ?_);(case side1=>repeat (first|exact HR0.out|(with_reducible refine Kd.C_alloc ?_ _)|(with_reducible refine Kd.C_drewN ?_ _)|(with_reducible refine Kd.C_drew ?_)));(case side2=>exact HC0.out);(case side3=>repeat (first|exact HR1.out|(with_reducible refine Kd.C_alloc ?_ _)|(with_reducible refine Kd.C_drewN ?_ _)|(with_reducible refine Kd.C_drew ?_)));(case side4=>exact HC1.out);rintro e w6 ⟨rfl,hb⟩;refine ⟨_,rfl,?_⟩;have n0_:=aM (below_step (by repeat (first|(with_reducible first|exact HB.out|apply Qc|apply Qa|apply Qb)|exact HB.out)) hb);clear HB;have HB:=n0_;clear n0_;(try clear hb);(try clear hb2);(try clear hk);(try clear hi)))
   go_ret3
   exact ⟨by first|rfl|(simp [errW_none,errW_some] <;> rfl)|(simp [*,errW_none,errW_some] <;> rfl),by repeat (first|(with_reducible first|exact HB.out|apply Qc|apply Qa|apply Qb)|exact HB.out)⟩
  ·replace c4:=Bool.eq_false_iff.mpr c4;subst c4;have H1:(some (0,0,false))=some (r1,r2,r3):=by rw [if_neg (show ¬ (false=true) by decide)] at H;exact H
   clear H;have H:=H1;clear H1;simp only [Option.some.injEq,Prod.mk.injEq] at H;obtain ⟨rfl,rfl,rfl⟩:=H;go_enter Try.func52,Try.ntmps52;go_wp2_with (first|((with_reducible refine Qh (f:=188) rfl ?_);refine goesL_ (some 11) rfl rfl Try.func188 (by kernel_rfl) rfl #[.slice A0 l0.length c0,.slice A1 l1.length c1] rfl (by (try simp only [aD,aE,aF]);first|done|rfl|(simp only [aG,aH];rfl)) ?_;(with_reducible refine (spec_l10Both.calls k _ _ l0 _ _ l1 false _ ?side1 ?side2 ?side3 ?side4 A3.out).mono ?_);(case side1=>repeat (first|exact HR0.out|(with_reducible refine Kd.C_alloc ?_ _)|(with_reducible refine Kd.C_drewN ?_ _)|(with_reducible refine Kd.C_drew ?_)));(case side2=>exact HC0.out);(case side3=>repeat (first|exact HR1.out|(with_reducible refine Kd.C_alloc ?_ _)|(with_reducible refine Kd.C_drewN ?_ _)|(with_reducible refine Kd.C_drew ?_)));(case side4=>exact HC1.out);rintro e w' ⟨rfl,⟨nd,rfl⟩⟩;refine ⟨_,rfl,?_⟩))
   go_ret3
   exact ⟨by first|rfl|(simp [errW_none,errW_some] <;> rfl)|(simp [*,errW_none,errW_some] <;> rfl),by repeat (first|(with_reducible first|exact HB.out|apply Qc|apply Qa|apply Qb)|exact HB.out)⟩

def impl_MovesNeeded.f (k:Nat) (l0:List Int) (l1:List Int):Option (Int×Bool):=(impl_RingsOf.f k l0 l1).bind fun bt101=>(some (wrap64 (bt101.1+bt101.2.1),bt101.2.2))
set_option maxHeartbeats 8000000 in
set_option maxRecDepth 100000 in
theorem impl_MovesNeeded.calls (k:Nat) (A0:Option Addr) (c0:Nat) (l0:List Int) (A1:Option Addr) (c1:Nat) (l1:List Int) (r1:Int) (r2:Bool) (w:World) (hr0:Kd.C (Kd.int .i64) w A0 l0.length l0) (hc0:l0.length≤c0) (hr1:Kd.C (Kd.int .i64) w A1 l1.length l1) (hc1:l1.length≤c1) (h:impl_MovesNeeded.f k l0 l1=some (r1,r2)) :
    Calls Try.prog 53 #[.slice A0 l0.length c0,.slice A1 l1.length c1] w fun e w'=>e= .returned (.tuple #[.int .i64 r1,.bool r2])∧Below w.heap.size w w':=by
  have HR0:=aM hr0;have HC0:=aM hc0;clear hr0 hc0;have HR1:=aM hr1;have HC1:=aM hc1;clear hr1 hc1;have HB:=aM (Below.refl w.heap.size w);have H:((impl_RingsOf.f k l0 l1).bind fun bt101=>(some (wrap64 (bt101.1+bt101.2.1),bt101.2.2)))=some (r1,r2):=h;clear h;replace H:=Option.bind_eq_some_iff.mp H;obtain ⟨⟨t101,t102,t103⟩,A30,H⟩:=H;replace H:(some (wrap64 (t101+t102),t103))=some (r1,r2):=H;have A3:=aM A30;clear A30;simp only [Option.some.injEq,Prod.mk.injEq] at H;obtain ⟨rfl,rfl⟩:=H;go_enter Try.func53,Try.ntmps53;go_wp2_with (first|((with_reducible refine Qh (f:=51) rfl ?_);refine goesL_ (some 12) rfl rfl Try.func51 (by kernel_rfl) rfl #[.slice A0 l0.length c0,.slice A1 l1.length c1] rfl (by (try simp only [aD,aE,aF]);first|done|rfl|(simp only [aG,aH];rfl)) ?_;(with_reducible refine (impl_RingsOf.calls k _ _ l0 _ _ l1 t101 t102 t103 _ ?side1 ?side2 ?side3 ?side4 A3.out).mono ?_);(case side1=>repeat (first|exact HR0.out|(with_reducible refine Kd.C_alloc ?_ _)|(with_reducible refine Kd.C_drewN ?_ _)|(with_reducible refine Kd.C_drew ?_)));(case side2=>exact HC0.out);(case side3=>repeat (first|exact HR1.out|(with_reducible refine Kd.C_alloc ?_ _)|(with_reducible refine Kd.C_drewN ?_ _)|(with_reducible refine Kd.C_drew ?_)));(case side4=>exact HC1.out);rintro e w4 ⟨rfl,hb⟩;refine ⟨_,rfl,?_⟩;have n0_:=aM (below_step (by repeat (first|(with_reducible first|exact HB.out|apply Qc|apply Qa|apply Qb)|exact HB.out)) hb);clear HB;have HB:=n0_;clear n0_;(try clear hb);(try clear hb2);(try clear hk);(try clear hi)))
  go_ret2
  exact ⟨by first|rfl|(simp [errW_none,errW_some] <;> rfl)|(simp [*,errW_none,errW_some] <;> rfl),by repeat (first|(with_reducible first|exact HB.out|apply Qc|apply Qa|apply Qb)|exact HB.out)⟩
end Go.Proofs.Ytneojimdhnhkeaa.Print
