/- No counts with as few places gain more than the best (Bellman), for drawn offers: no condition but the statement's own. -/
import Derived.Test.YtpagpbamdpllnaaCFnChoice0
import Derived.Test.YtpagpbamdpllnaaCFnChoice1
set_option linter.unusedVariables false
set_option linter.unusedSimpArgs false
namespace Go.Proofs.Ytpagpbamdpllnaa.Print
open Go.RowKit Go.Proofs.YtpagpbamdpllnaaW.PrintWords Go.Proofs.YtpagpbamdpllnaaW.PrintLast Go.Proofs.YtpagpbamdpllnaaW.PrintMore
attribute [local go_sem] max2_int min2_int max_two min_two max_three min_three max_four min_four

mutual
def spec_BestChoice.j0:Nat→List (S53)→Int→Bool→Option (List Int×Int×Bool)
  |0,_,_,_=>none
  |k+1,x0,x1,x19=>if x19=true then (some (([]:List Int),0,false)) else ((spec_l6Rows.f k x0 x1).bind fun t103=>(if 0≤(x0.length:Int) then (if ((x0.length:Int):Int).toNat≤35184372088832 then (spec_BestChoice.l0 k x0 x1 t103 (List.replicate ((x0.length:Int):Int).toNat 0) x1 (wrap64 ((x0.length:Int) - 1))) else (none)) else (none)))
def spec_BestChoice.l0:Nat→List (S53)→Int→List (List Int)→List Int→Int→Int→Option (List Int×Int×Bool)
  |0,_,_,_,_,_,_=>none
  |k+1,x0,x1,x7,x8,x9,x10=>if x10 ≥ 0 then (spec_BestChoice.l1 k x0 x1 x7 x8 x9 x10 0) else (if 0≤(x0.length:Int) then (if (x0.length:Int)<(x7.length:Int) then (if 0≤x1 then (if x1<((rd_L2 x7 (x0.length:Int)).length:Int) then (some (x8,rd (rd_L2 x7 (x0.length:Int)) x1,true)) else (none)) else (none)) else (none)) else (none))
def spec_BestChoice.l1:Nat→List (S53)→Int→List (List Int)→List Int→Int→Int→Int→Option (List Int×Int×Bool)
  |0,_,_,_,_,_,_,_=>none
  |k+1,x0,x1,x7,x8,x9,x10,x11=>if 0≤x10 then (if x10<(x7.length:Int) then (if 0≤(wrap64 (x9 - x11)) then (if (wrap64 (x9 - x11))<((rd_L2 x7 x10).length:Int) then (if x10<(x0.length:Int) then ((spec_l6Gain.f ((rd_T53 x0 x10).f0) x11).bind fun t114=>(if 0≤(wrap64 (x10+1)) then (if (wrap64 (x10+1))<(x7.length:Int) then (if 0≤x9 then (if x9<((rd_L2 x7 (wrap64 (x10+1))).length:Int) then (if (wrap64 ((rd (rd_L2 x7 x10) (wrap64 (x9 - x11)))+t114))=(rd (rd_L2 x7 (wrap64 (x10+1))) x9) then (if x10<(x8.length:Int) then (spec_BestChoice.l0 k x0 x1 x7 (x8.set (x10:Int).toNat x11) (wrap64 (x9 - x11)) (wrap64 (x10 - 1))) else (none)) else (spec_BestChoice.l1 k x0 x1 x7 x8 x9 x10 (wrap64 (x11+1)))) else (none)) else (none)) else (none)) else (none))) else (none)) else (none)) else (none)) else (none)) else (none)
end
def spec_BestChoice.f (k:Nat) (l0:List (S53)) (a1:Int):Option (List Int×Int×Bool):=(spec_GoodOffers.f k l0).bind fun t101=>(if t101=true then ((spec_l6Places.f a1).bind fun t102=>(spec_BestChoice.j0 k l0 a1 (!t102))) else (spec_BestChoice.j0 k l0 a1 true))
def spec_BestChoice.T10:Bool×List (List Nat×List Nat):=(true,[([],[]),([],[]),([0,1],[0,1]),([2],[2]),([],[]),([],[]),([4,5],[4,5]),([3,6],[3,6]),([7],[7]),([],[]),([],[]),([9,10],[9,10]),([11],[11]),([],[]),([12,13],[12,13]),([8,14],[8,14]),([],[]),([],[]),([17],[17]),([16,18],[16,18]),([19],[19]),([],[]),([20,21],[20,21]),([22],[22]),([15,23],[15,23])])
def spec_BestChoice.B10:List Nat:=[0,0,3,7,0,0,48,127,255,0,0,1536,3584,0,15872,32767,0,0,131072,458752,983040,0,4128768,8323072,16777215]
theorem spec_BestChoice.tab10:rtab .any (opsOf Try.f45 10)=spec_BestChoice.T10:=by kernel_rfl
theorem spec_BestChoice.bits10:waitsOk spec_BestChoice.T10.2 spec_BestChoice.B10=true:=by kernel_rfl
def spec_BestChoice.T14:Bool×List (List Nat×List Nat):=(true,[([],[]),([],[]),([],[]),([2],[2]),([1,3],[1,3]),([4],[4]),([],[]),([5,6],[5,6]),([7],[7]),([0,0],[0]),([8,9,0,1,2,3,4,5,6,7,8,9],[8]),([10,0,1,2,3,4,5,6,7,8,9,10],[])])
def spec_BestChoice.B14:List Nat:=[0,0,0,4,14,30,0,126,254,1,1023,2047]
theorem spec_BestChoice.tab14:rtab .any (opsOf Try.f45 14)=spec_BestChoice.T14:=by kernel_rfl
theorem spec_BestChoice.bits14:waitsOk spec_BestChoice.T14.2 spec_BestChoice.B14=true:=by kernel_rfl
set_option maxHeartbeats 8000000 in
set_option maxRecDepth 100000 in
theorem spec_BestChoice.calls (k:Nat) (A0:Option Addr) (c0:Nat) (l0:List (S53)) (a1:Int) (r1:List Int) (r2:Int) (r3:Bool) (w:World) (hr0:Kd.C k53 w A0 l0.length l0) (hc0:l0.length≤c0) (h:spec_BestChoice.f k l0 a1=some (r1,r2,r3)) :
    Calls Try.prog 45 #[.slice A0 l0.length c0,.int .i64 a1] w fun e w'=>∃ v0_:Value,e= .returned (.tuple #[v0_,.int .i64 r2,.bool r3])∧Kd.R (Kd.int .i64) 3 w' w.heap.size (fun _=>True) v0_ r1∧Below w.heap.size w w':=by
  have hu53:=Try.underlying53;have HR0:=aM hr0;have HC0:=aM hc0;clear hr0 hc0;have HB:=aM (Below.refl w.heap.size w);have H:((spec_GoodOffers.f k l0).bind fun t101=>(if t101=true then ((spec_l6Places.f a1).bind fun t102=>(spec_BestChoice.j0 k l0 a1 (!t102))) else (spec_BestChoice.j0 k l0 a1 true)))=some (r1,r2,r3):=h;clear h;have HC3:=aM H;clear H;go_enter Try.func45,Try.ntmps45
  go_upto_region 1 with (fail)
  go_cut [19] (fun v19 wc=>∃ (kq:Nat) (x19_2:Bool),v19= .bool x19_2∧Aside0 (spec_BestChoice.j0 kq l0 a1 x19_2=some (r1,r2,r3))∧Aside0 (kq≤k)∧Aside0 (Below w.heap.size w wc))
  case first=>
   have H:=HC3.out;clear HC3;replace H:=Option.bind_eq_some_iff.mp H;obtain ⟨t101,A40,H⟩:=H;replace H:(if t101=true then ((spec_l6Places.f a1).bind fun t102=>(spec_BestChoice.j0 k l0 a1 (!t102))) else (spec_BestChoice.j0 k l0 a1 true))=some (r1,r2,r3):=H;have A4:=aM A40;clear A40;by_cases c5:t101=true
   ·subst c5;have H1:((spec_l6Places.f a1).bind fun t102=>(spec_BestChoice.j0 k l0 a1 (!t102)))=some (r1,r2,r3):=by rw [if_pos rfl] at H;exact H
    clear H;have H:=H1;clear H1;replace H:=Option.bind_eq_some_iff.mp H;obtain ⟨t102,A60,H⟩:=H;replace H:(spec_BestChoice.j0 k l0 a1 (!t102))=some (r1,r2,r3):=H;have A6:=aM A60;clear A60;have H':=aM H;clear H;go_wp2_with (first|((with_reducible refine Qt (f:=49) rfl ?_);refine goesL_ (some 13) rfl rfl Try.func49 (by kernel_rfl) rfl #[.slice A0 l0.length c0] rfl (by (try simp only [aD,aE,aF]);first|done|rfl|(simp only [aG,aH];rfl)) ?_;(with_reducible refine (spec_GoodOffers.calls k _ _ l0 true _ ?side1 ?side2 A4.out).mono ?_);(case side1=>repeat (first|exact (Kd.C_below HR0.out HB.out)|(with_reducible refine Kd.Ql ?_ _)|(with_reducible refine Kd.Qm ?_ _)|(with_reducible refine Kd.C_drew ?_)));(case side2=>exact HC0.out);rintro e w7 ⟨rfl,hb⟩;refine ⟨_,rfl,?_⟩;have n0_:=aM (Qg (by repeat (first|(with_reducible first|exact HB.out|apply Qc|apply Qa|apply Qb)|exact HB.out)) hb);clear HB;have HB:=n0_;clear n0_;(try clear hb);(try clear hb2);(try clear hk);(try clear hi))|(go_at_call 142;(with_reducible refine (spec_l6Places.calls a1 t102 _ A6.out).mono ?_);rintro e w' ⟨rfl,⟨nd,rfl⟩⟩))
    go_meet
    case rel=>exact ⟨_,(!t102),(by first|rfl|(simp;done)|(simp [*];done)),H',⟨by first|omega|exact Nat.le_refl _⟩,⟨by repeat (first|(with_reducible first|exact HB.out|apply Qc|apply Qa|apply Qb)|exact HB.out)⟩⟩
   ·replace c5:=Bool.eq_false_iff.mpr c5;subst c5;have H1:(spec_BestChoice.j0 k l0 a1 true)=some (r1,r2,r3):=by rw [if_neg (show ¬ (false=true) by decide)] at H;exact H
    clear H;have H:=H1;clear H1;have H':=aM H;clear H;go_wp2_with (first|((with_reducible refine Qt (f:=49) rfl ?_);refine goesL_ (some 13) rfl rfl Try.func49 (by kernel_rfl) rfl #[.slice A0 l0.length c0] rfl (by (try simp only [aD,aE,aF]);first|done|rfl|(simp only [aG,aH];rfl)) ?_;(with_reducible refine (spec_GoodOffers.calls k _ _ l0 false _ ?side1 ?side2 A4.out).mono ?_);(case side1=>repeat (first|exact (Kd.C_below HR0.out HB.out)|(with_reducible refine Kd.Ql ?_ _)|(with_reducible refine Kd.Qm ?_ _)|(with_reducible refine Kd.C_drew ?_)));(case side2=>exact HC0.out);rintro e w8 ⟨rfl,hb⟩;refine ⟨_,rfl,?_⟩;have n0_:=aM (Qg (by repeat (first|(with_reducible first|exact HB.out|apply Qc|apply Qa|apply Qb)|exact HB.out)) hb);clear HB;have HB:=n0_;clear n0_;(try clear hb);(try clear hb2);(try clear hk);(try clear hi)))
    go_meet
    case rel=>exact ⟨_,(true),(by first|rfl|(simp;done)|(simp [*];done)),H',⟨by first|omega|exact Nat.le_refl _⟩,⟨by repeat (first|(with_reducible first|exact HB.out|apply Qc|apply Qa|apply Qb)|exact HB.out)⟩⟩
  case rest=>
   clear HC3;(try clear p2);(try clear c4);(try clear c5);obtain ⟨kq,x19_2,rfl,HA,HJ2,HB⟩:=hcut
   cases kq with
   |zero=>exact absurd HA.out (by simp [spec_BestChoice.j0])
   |succ kj2=>
    have H:=HA.out;clear HA;simp only [spec_BestChoice.j0] at H;by_cases c9:x19_2=true
    ·subst c9;have H1:(some (([]:List Int),0,false))=some (r1,r2,r3):=by rw [if_pos rfl] at H;exact H
     clear H;have H:=H1;clear H1;simp only [Option.some.injEq,Prod.mk.injEq] at H;obtain ⟨rfl,rfl,rfl⟩:=H;go_wp2
     go_ret3
     exact ⟨_,by first|rfl|(simp [errW_none,errW_some] <;> rfl)|(simp [*,errW_none,errW_some] <;> rfl),by first|exact Kd.R_nil _ _ _ _ _|exact Kd.N_nil _ _ _ _ _|exact Kd.V_nil _ _ _ _ _|exact Kd.Q_nil _ _ _ _ _|exact Kd.S_nil _ _ _ _ _,by repeat (first|(with_reducible first|exact HB.out|apply Qc|apply Qa|apply Qb)|exact HB.out)⟩
    ·replace c9:=Bool.eq_false_iff.mpr c9;subst c9;have H1:((spec_l6Rows.f kj2 l0 a1).bind fun t103=>(if 0≤(l0.length:Int) then (if ((l0.length:Int):Int).toNat≤35184372088832 then (spec_BestChoice.l0 kj2 l0 a1 t103 (List.replicate ((l0.length:Int):Int).toNat 0) a1 (wrap64 ((l0.length:Int) - 1))) else (none)) else (none)))=some (r1,r2,r3):=by rw [if_neg (show ¬ (false=true) by decide)] at H;exact H
     clear H;have H:=H1;clear H1;replace H:=Option.bind_eq_some_iff.mp H;obtain ⟨t103,A100,H⟩:=H;replace H:(if 0≤(l0.length:Int) then (if ((l0.length:Int):Int).toNat≤35184372088832 then (spec_BestChoice.l0 kj2 l0 a1 t103 (List.replicate ((l0.length:Int):Int).toNat 0) a1 (wrap64 ((l0.length:Int) - 1))) else (none)) else (none))=some (r1,r2,r3):=H;have A10:=aM A100;clear A100;by_cases c11:0≤(l0.length:Int)
     ·rw [if_pos c11] at H;have c11b0:=eq_true c11;have c11b1:decide (0≤(l0.length:Int))=true:=decide_eq_true c11;clear c11;by_cases c12:((l0.length:Int):Int).toNat≤35184372088832
      ·rw [if_pos c12] at H;have c12b0:=eq_true c12;have c12b1:decide (((l0.length:Int):Int).toNat≤35184372088832)=true:=decide_eq_true c12;clear c12;obtain ⟨y106,hy106⟩:∃ y_:List Int,y_=(List.replicate ((l0.length:Int):Int).toNat 0):=⟨_,rfl⟩;replace H:(spec_BestChoice.l0 kj2 l0 a1 t103 y106 a1 (wrap64 ((l0.length:Int) - 1)))=some (r1,r2,r3):=by first|(rw [hy106];with_reducible exact H)|(have H2_:=(Option.bind_some _ _).symm.trans H;rw [hy106];with_reducible exact H2_)|(have H2_:=(Option.bind_some _ _).symm.trans H;with_reducible exact H2_)|with_reducible exact H|(rw [hy106];exact H)|exact H
       have Ny106:=aM hy106;clear hy106;have H':=aM H;clear H;go_wp2_with (first|((with_reducible refine Qt (f:=143) rfl ?_);refine goesL_ (some 22) rfl rfl Try.func143 (by kernel_rfl) rfl #[.slice A0 l0.length c0,.int .i64 a1] rfl (by (try simp only [aD,aE,aF]);first|done|rfl|(simp only [aG,aH];rfl)) ?_;(with_reducible refine (spec_l6Rows.calls kj2 _ _ l0 a1 t103 _ ?side1 ?side2 A10.out).mono ?_);(case side1=>repeat (first|exact (Kd.C_below HR0.out HB.out)|(with_reducible refine Kd.Ql ?_ _)|(with_reducible refine Kd.Qm ?_ _)|(with_reducible refine Kd.C_drew ?_)));(case side2=>exact HC0.out);rintro e w13 ⟨v104,rfl,ho0,hb⟩;refine ⟨_,rfl,?_⟩;have n0_:=aM (Kd.N_lower (Kd.N_mono (ok':=fun k_=>True) ho0 (fun k_ hk_=>trivial)) (Qk (by repeat (first|(with_reducible first|exact HB.out|apply Qc|apply Qa|apply Qb)|exact HB.out))));have n1_:=aM (Qg (by repeat (first|(with_reducible first|exact HB.out|apply Qc|apply Qa|apply Qb)|exact HB.out)) hb);clear HB;have HO105:=n0_;have HB:=n1_;clear n0_ n1_;(try clear hb);(try clear hb2);(try clear hk);(try clear hi);(try clear ho0))|((with_reducible refine gate_dst (N:=25) rfl ?_);refine Kd.R_make (Kd.int .i64) _ 3 rfl (N:=25) rfl 23 _ _ rfl (l0.length:Int) rfl rfl Try.underlying23 (.int .i64 0) 8 info3 rfl (by decide) (by omega) 0 (ok:=fun _=>True) (okp:=fun _=>True) rfl (fun _ hk=>hk) trivial (of_decide_eq_true (by first|(with_reducible assumption)|assumption)) (Nat.le_trans (Nat.mul_le_mul_right _ (of_decide_eq_true (by first|(with_reducible assumption)|assumption):(l0.length:Int).toNat≤35184372088832)) (by omega)) (Below.refl _ _) (Nat.le_refl _) ?_;intro v107 w14 ho15 hb hg_ hnew_;clear hg_ hnew_;(first|rw [←Ny106.out] at ho15|(simp only [Int.reduceToNat] at ho15;rw [←Ny106.out] at ho15));have n0_:=aM (Kd.N_elder' (by (with_reducible repeat (first|apply Kd.Qp|apply Kd.Qo|apply Kd.N_drew));exact HO105.out) (Kd.R_base ho15) hb);have n1_:=aM (Kd.R_lower ho15 (Qk (by repeat (first|(with_reducible first|exact HB.out|apply Qc|apply Qa|apply Qb)|exact HB.out))));have n2_:=aM (Qg (by repeat (first|(with_reducible first|exact HB.out|apply Qc|apply Qa|apply Qb)|exact HB.out)) hb);clear HO105;clear HB;have HO105:=n0_;have HO108:=n1_;have HB:=n2_;clear n0_ n1_ n2_;clear hb ho15))
       go_loopg [9,10] kj2 (fun kq v9 v10 w'=>∃ (x8_2:List Int) (x9_2:Int) (x10_2:Int),v9= .int .i64 x9_2∧v10= .int .i64 x10_2∧Aside0 (spec_BestChoice.l0 kq l0 a1 t103 x8_2 x9_2 x10_2=some (r1,r2,r3))∧Aside0 (kq≤kj2)∧Aside0 (Kd.N (Kd.slice 3 (Kd.int .i64)) 23 w' w.heap.size (fun k_=>some k_≠(v107:Value).ownBlock) v104 t103)∧Aside0 (Kd.R (Kd.int .i64) 3 w' w.heap.size (fun _=>True) v107 x8_2)∧Aside0 (Below w.heap.size w w'))
       case atStart=>exact ⟨(y106),(a1),(wrap64 ((l0.length:Int) - 1)),(by first|rfl|(simp;done)|(simp [*];done)),(by first|rfl|(simp;done)|(simp [*];done)),H',⟨Nat.le_refl _⟩,⟨by (with_reducible repeat (first|apply Kd.Qp|apply Kd.Qo|apply Kd.N_drew));exact Kd.N_mono HO105.out (fun _ hk=>hk.2)⟩,⟨by (with_reducible repeat (first|apply Kd.Qf|apply Kd.Qe|apply Kd.R_drew));exact HO108.out⟩,⟨by repeat (first|(with_reducible first|exact HB.out|apply Qc|apply Qa|apply Qb)|exact HB.out)⟩⟩
       case round=>
        clear H';(try clear c1);(try clear p2);(try clear c4);(try clear c5);(try clear p6);(try clear c9);(try clear c11);(try clear c11b0);(try clear c11b1);(try clear c12);(try clear c12b0);(try clear c12b1);(try clear c14);(try clear p2);obtain ⟨x8_2,x9_2,x10_2,rfl,rfl,HA,HK2,HO_7,HO_8,HB⟩:=hrel
        cases gk with
        |zero=>exact absurd HA.out (by simp [spec_BestChoice.l0])
        |succ k2=>
         have H:=HA.out;clear HA;simp only [spec_BestChoice.l0] at H;by_cases c16:x10_2 ≥ 0
         ·rw [if_pos c16] at H;have c16b0:decide (0≤x10_2)=true:=decide_eq_true c16;clear c16;have H':=aM H;clear H;go_wp2;go_loopg [11] k2 (fun kq v11 w'=>∃ (x11_3:Int),v11= .int .i64 x11_3∧Aside0 (spec_BestChoice.l1 kq l0 a1 t103 x8_2 x9_2 x10_2 x11_3=some (r1,r2,r3))∧Aside0 (kq≤k2)∧Aside0 (Kd.N (Kd.slice 3 (Kd.int .i64)) 23 w' w.heap.size (fun k_=>some k_≠(v107:Value).ownBlock) v104 t103)∧Aside0 (Kd.R (Kd.int .i64) 3 w' w.heap.size (fun _=>True) v107 x8_2)∧Aside0 (Below w.heap.size w w'))
          case atStart=>exact ⟨(0),(by first|rfl|(simp;done)|(simp [*];done)),H',⟨Nat.le_refl _⟩,⟨by (with_reducible repeat (first|apply Kd.Qp|apply Kd.Qo|apply Kd.N_drew));exact HO_7.out⟩,⟨by (with_reducible repeat (first|apply Kd.Qf|apply Kd.Qe|apply Kd.R_drew));exact HO_8.out⟩,⟨by repeat (first|(with_reducible first|exact HB.out|apply Qc|apply Qa|apply Qb)|exact HB.out)⟩⟩
          case round=>
           clear H';(try clear c1);(try clear p2);(try clear c4);(try clear c5);(try clear p6);(try clear c9);(try clear c11);(try clear c11b0);(try clear c11b1);(try clear c12);(try clear c12b0);(try clear c12b1);(try clear c14);(try clear c16);(try clear c16b0);(try clear p2);(try clear p6);obtain ⟨x11_3,rfl,HA,HK3,HO_7,HO_8,HB⟩:=hrel
           cases gk with
           |zero=>exact absurd HA.out (by simp [spec_BestChoice.l1])
           |succ k3=>
            have H:=HA.out;clear HA;simp only [spec_BestChoice.l1] at H;by_cases c17:0≤x10_2
            ·rw [if_pos c17] at H;have c17b0:decide (0≤x10_2)=true:=decide_eq_true c17;clear c17;by_cases c18:x10_2<(t103.length:Int)
             ·rw [if_pos c18] at H;have c18b0:decide (x10_2<(t103.length:Int))=true:=decide_eq_true c18;clear c18;obtain ⟨ji19,hji19⟩:∃ j_:Int,(wrap64 (x9_2 - x11_3))=j_:=⟨_,rfl⟩;replace H:(if 0≤(ji19) then (if (ji19)<((rd_L2 t103 x10_2).length:Int) then (if x10_2<(l0.length:Int) then ((spec_l6Gain.f ((rd_T53 l0 x10_2).f0) x11_3).bind fun t114=>(if 0≤(wrap64 (x10_2+1)) then (if (wrap64 (x10_2+1))<(t103.length:Int) then (if 0≤x9_2 then (if x9_2<((rd_L2 t103 (wrap64 (x10_2+1))).length:Int) then (if (wrap64 ((rd (rd_L2 t103 x10_2) (ji19))+t114))=(rd (rd_L2 t103 (wrap64 (x10_2+1))) x9_2) then (if x10_2<(x8_2.length:Int) then (spec_BestChoice.l0 k3 l0 a1 t103 (x8_2.set (x10_2:Int).toNat x11_3) ji19 (wrap64 (x10_2 - 1))) else (none)) else (spec_BestChoice.l1 k3 l0 a1 t103 x8_2 x9_2 x10_2 (wrap64 (x11_3+1)))) else (none)) else (none)) else (none)) else (none))) else (none)) else (none)) else (none))=some (r1,r2,r3):=by first|(rw [hji19] at H;exact H)|(simp only [hji19] at H ⊢;exact H)
              have hji19w:(IntKind.i64.wrap (x9_2 - x11_3))=ji19:=(i64_w _).trans hji19;by_cases c20:0≤(ji19)
              ·rw [if_pos c20] at H;have c20b0:decide (0≤(ji19))=true:=decide_eq_true c20;clear c20;by_cases c21:(ji19)<((rd_L2 t103 x10_2).length:Int)
               ·rw [if_pos c21] at H;have c21b0:decide ((ji19)<((rd_L2 t103 x10_2).length:Int))=true:=decide_eq_true c21;clear c21;by_cases c22:x10_2<(l0.length:Int)
                ·rw [if_pos c22] at H;have c22b0:decide (x10_2<(l0.length:Int))=true:=decide_eq_true c22;clear c22;replace H:=Option.bind_eq_some_iff.mp H;obtain ⟨t114,A230,H⟩:=H;replace H:(if 0≤(wrap64 (x10_2+1)) then (if (wrap64 (x10_2+1))<(t103.length:Int) then (if 0≤x9_2 then (if x9_2<((rd_L2 t103 (wrap64 (x10_2+1))).length:Int) then (if (wrap64 ((rd (rd_L2 t103 x10_2) (ji19))+t114))=(rd (rd_L2 t103 (wrap64 (x10_2+1))) x9_2) then (if x10_2<(x8_2.length:Int) then (spec_BestChoice.l0 k3 l0 a1 t103 (x8_2.set (x10_2:Int).toNat x11_3) ji19 (wrap64 (x10_2 - 1))) else (none)) else (spec_BestChoice.l1 k3 l0 a1 t103 x8_2 x9_2 x10_2 (wrap64 (x11_3+1)))) else (none)) else (none)) else (none)) else (none))=some (r1,r2,r3):=H;have A23:=aM A230;clear A230;obtain ⟨ji24,hji24⟩:∃ j_:Int,(wrap64 (x10_2+1))=j_:=⟨_,rfl⟩;replace H:(if 0≤(ji24) then (if (ji24)<(t103.length:Int) then (if 0≤x9_2 then (if x9_2<((rd_L2 t103 (ji24)).length:Int) then (if (wrap64 ((rd (rd_L2 t103 x10_2) (ji19))+t114))=(rd (rd_L2 t103 (ji24)) x9_2) then (if x10_2<(x8_2.length:Int) then (spec_BestChoice.l0 k3 l0 a1 t103 (x8_2.set (x10_2:Int).toNat x11_3) ji19 (wrap64 (x10_2 - 1))) else (none)) else (spec_BestChoice.l1 k3 l0 a1 t103 x8_2 x9_2 x10_2 (wrap64 (x11_3+1)))) else (none)) else (none)) else (none)) else (none))=some (r1,r2,r3):=by first|(rw [hji24] at H;exact H)|(simp only [hji24] at H ⊢;exact H)
                 (try rw [hji24] at A23);have hji24w:(IntKind.i64.wrap (x10_2+1))=ji24:=(i64_w _).trans hji24;by_cases c25:0≤(ji24)
                 ·rw [if_pos c25] at H;have c25b0:decide (0≤(ji24))=true:=decide_eq_true c25;clear c25;by_cases c26:(ji24)<(t103.length:Int)
                  ·rw [if_pos c26] at H;have c26b0:decide ((ji24)<(t103.length:Int))=true:=decide_eq_true c26;clear c26;by_cases c27:0≤x9_2
                   ·rw [if_pos c27] at H;have c27b0:decide (0≤x9_2)=true:=decide_eq_true c27;clear c27;by_cases c28:x9_2<((rd_L2 t103 (ji24)).length:Int)
                    ·rw [if_pos c28] at H;have c28b0:decide (x9_2<((rd_L2 t103 (ji24)).length:Int))=true:=decide_eq_true c28;clear c28;by_cases c29:(wrap64 ((rd (rd_L2 t103 x10_2) (ji19))+t114))=(rd (rd_L2 t103 (ji24)) x9_2)
                     ·rw [if_pos c29] at H;have c29b0:((wrap64 ((rd (rd_L2 t103 x10_2) (ji19))+t114)) == (rd (rd_L2 t103 (ji24)) x9_2))=true:=beq_iff_eq.mpr c29;have c29b1:((wrap64 ((rd (rd_L2 t103 x10_2) (ji19))+t114)) != (rd (rd_L2 t103 (ji24)) x9_2))=false:=bne_eq_false_iff_eq.mpr c29;clear c29;by_cases c30:x10_2<(x8_2.length:Int)
                      ·rw [if_pos c30] at H;have c30b0:decide (x10_2<(x8_2.length:Int))=true:=decide_eq_true c30;clear c30;obtain ⟨y117,hy117⟩:∃ y_:List Int,y_=(x8_2.set (x10_2:Int).toNat x11_3):=⟨_,rfl⟩;replace H:(spec_BestChoice.l0 k3 l0 a1 t103 y117 ji19 (wrap64 (x10_2 - 1)))=some (r1,r2,r3):=by first|(rw [hy117];with_reducible exact H)|(have H2_:=(Option.bind_some _ _).symm.trans H;rw [hy117];with_reducible exact H2_)|(have H2_:=(Option.bind_some _ _).symm.trans H;with_reducible exact H2_)|with_reducible exact H|(rw [hy117];exact H)|exact H
                       have Ny117:=aM hy117;clear hy117;have H':=aM H;clear H
                       try go_wp2
                       have n0_:=aM (Kd.N_drew HO_7.out);have n1_:=aM (Kd.R_drew HO_8.out);have n2_:=aM (Qb HB.out);clear HO_7;clear HO_8;clear HB;have HO_7:=n0_;have HO_8:=n1_;have HB:=n2_;clear n0_ n1_ n2_;obtain ⟨Ao33,co33,eo33⟩:=Kd.N_slice HO_7.out
                       (first|subst eo33|(injection eo33 with f1_ f2_ f3_;have f4_:=f1_.symm;have f5_:=f3_.symm;clear f1_ f2_ f3_;subst f4_;subst f5_))
                       have p111:0≤(x10_2:Int):=of_decide_eq_true (by first|(with_reducible assumption)|assumption);have q111:x10_2<(t103.length:Int):=of_decide_eq_true (by first|(with_reducible assumption)|assumption);obtain ⟨ad111,A111_0,c111_0,e111,hx111_0,hl111_0,hi111_0⟩:=at_L2 (Kd.Qq HO_7.out).2.2 x10_2 p111 q111
                       cases e111
                       obtain ⟨ce111,hce111,hMe111,hcc111⟩:=Kd.N_get HO_7.out [] x10_2 p111 (by first|exact q111|exact of_decide_eq_true (by first|(with_reducible assumption)|assumption)|(have e_:=(Kd.Qq HO_7.out).1;omega));obtain ⟨ua111_0,uc111_0,rfl,ul111_0,ge111_0⟩:=Kd.FK_slice_open hMe111;have hv111_0:=hcc111 0 _ rfl;rw [Nat.add_zero,show ((Kd.slice 3 (Kd.int .i64))).sz=1 from rfl,Nat.mul_one] at hv111_0;replace hv111_0:=Option.some.inj (hv111_0.symm.trans hx111_0)
                       injection hv111_0 with hva_ hvn_ hvc_
                       rw [hva_] at ge111_0;rw [hvc_] at ul111_0;have HL111_0:=aM (show Kd.V (Kd.int .i64) 3 _ w.heap.size _ _ (rd_L2 t103 x10_2) from Kd.V_mk ul111_0 ge111_0);clear hva_ hvn_ hvc_ ge111_0 ul111_0;clear hcc111 hce111;have HR111_0:=aM hi111_0;have HC111_0:=aM hl111_0;clear hi111_0 hl111_0;replace p111:=eq_true p111;replace q111:=eq_true q111;have p112:0≤((ji19):Int):=of_decide_eq_true (by first|(with_reducible assumption)|assumption);have q112:(ji19)<((rd_L2 t103 x10_2).length:Int):=of_decide_eq_true (by first|(with_reducible assumption)|assumption);obtain ⟨ad112,e112,hx112_0⟩:=Kd.at_int (by repeat (first|(with_reducible exact HR111_0.out)|(with_reducible refine Kd.Ql ?_ _)|(with_reducible refine Kd.Qm ?_ _)|(with_reducible refine Kd.C_drew ?_)|exact HR111_0.out)) (ji19) p112 q112
                       cases e112
                       replace p112:=eq_true p112;replace q112:=eq_true q112;have p113:0≤(x10_2:Int):=of_decide_eq_true (by first|(with_reducible assumption)|assumption);have q113:x10_2<(l0.length:Int):=of_decide_eq_true (by first|(with_reducible assumption)|assumption);obtain ⟨ad113,A113_0,c113_0,e113,hx113_0,hl113_0,hi113_0⟩:=at_T53 HR0.out x10_2 p113 q113;have hw113_0:=hx113_0
                       cases e113
                       replace hx113_0:=(HB.out.cell (aI w _ hx113_0)).trans hx113_0;have HR113_0:=aM hi113_0;have HC113_0:=aM hl113_0;clear hi113_0 hl113_0;replace p113:=eq_true p113;replace q113:=eq_true q113;have p115:0≤((ji24):Int):=of_decide_eq_true (by first|(with_reducible assumption)|assumption);have q115:(ji24)<(t103.length:Int):=of_decide_eq_true (by first|(with_reducible assumption)|assumption);obtain ⟨ad115,A115_0,c115_0,e115,hx115_0,hl115_0,hi115_0⟩:=at_L2 (Kd.Qq HO_7.out).2.2 (ji24) p115 q115;obtain rfl:ad111=ad115:=(by injection e115);obtain ⟨ce115,hce115,hMe115,hcc115⟩:=Kd.N_get HO_7.out [] (ji24) p115 (by first|exact q115|exact of_decide_eq_true (by first|(with_reducible assumption)|assumption)|(have e_:=(Kd.Qq HO_7.out).1;omega));obtain ⟨ua115_0,uc115_0,rfl,ul115_0,ge115_0⟩:=Kd.FK_slice_open hMe115;have hv115_0:=hcc115 0 _ rfl;rw [Nat.add_zero,show ((Kd.slice 3 (Kd.int .i64))).sz=1 from rfl,Nat.mul_one] at hv115_0;replace hv115_0:=Option.some.inj (hv115_0.symm.trans hx115_0)
                       injection hv115_0 with hva_ hvn_ hvc_
                       rw [hva_] at ge115_0;rw [hvc_] at ul115_0;have HL115_0:=aM (show Kd.V (Kd.int .i64) 3 _ w.heap.size _ _ (rd_L2 t103 (ji24)) from Kd.V_mk ul115_0 ge115_0);clear hva_ hvn_ hvc_ ge115_0 ul115_0;clear hcc115 hce115;have HR115_0:=aM hi115_0;have HC115_0:=aM hl115_0;clear hi115_0 hl115_0;replace p115:=eq_true p115;replace q115:=eq_true q115;have p116:0≤(x9_2:Int):=of_decide_eq_true (by first|(with_reducible assumption)|assumption);have q116:x9_2<((rd_L2 t103 (ji24)).length:Int):=of_decide_eq_true (by first|(with_reducible assumption)|assumption);obtain ⟨ad116,e116,hx116_0⟩:=Kd.at_int (by repeat (first|(with_reducible exact HR115_0.out)|(with_reducible refine Kd.Ql ?_ _)|(with_reducible refine Kd.Qm ?_ _)|(with_reducible refine Kd.C_drew ?_)|exact HR115_0.out)) x9_2 p116 q116
                       cases e116
                       replace p116:=eq_true p116;replace q116:=eq_true q116;refine start_ (n:=25) (S:=fun w'=>w'.cell? (ad111.add (x10_2).toNat)=some (.slice (some ad112) (rd_L2 t103 x10_2).length c111_0)∧w'.cell? (ad112.add ((ji19)).toNat)=some (.int .i64 (rd (rd_L2 t103 x10_2) (ji19)))∧w'.cell? (ad113.add (x10_2).toNat)=some (.slice A113_0 ((rd_T53 l0 x10_2).f0).length c113_0)∧w'.cell? (ad111.add ((ji24)).toNat)=some (.slice (some ad116) (rd_L2 t103 (ji24)).length c115_0)∧w'.cell? (ad116.add (x9_2).toNat)=some (.int .i64 (rd (rd_L2 t103 (ji24)) x9_2))) (ds:=[]) #[false,false,false,false,false,false,false,false,false,false,false,false,false,false,false,false,false,false,false,false,false,false,false,false,false] (by kernel_rfl) rfl rfl ⟨hx111_0,hx112_0,((HB.out.cell (aI w _ hw113_0)).trans hw113_0),hx115_0,hx116_0⟩ (fun hHeld=>?_);refine with_tabW spec_BestChoice.tab10 spec_BestChoice.bits10 (fun HT_ HW_=>?_)
                       generalize wr.drew=w32 at HO_7 HO_8 HB HL111_0 HL115_0 HR111_0 HR113_0 HR115_0 hx111_0 hx112_0 hx113_0 hx115_0 hx116_0 hHeld ⊢
                       refine pure_ (i:=0) (N:=some 34) (v:=?_) (a':=?_) #[true,false,false,false,false,false,false,false,false,false,false,false,false,false,false,false,false,false,false,false,false,false,false,false,false] rfl rfl (any_of HT_.out (by kernel_rfl)) (fun _ _ _ h=>h) (Or.inl ⟨by rfl,?_⟩) ?_ ?_
                       rotate_left
                       ·intro w'
                        go_simp
                        with_reducible rfl
                       rotate_left
                       ·simp only [Act.put,aA,aB,aC,i64_w,i32_w]
                        rfl
                       refine pure_ (i:=1) (N:=some 35) (v:=?_) (a':=?_) #[true,true,false,false,false,false,false,false,false,false,false,false,false,false,false,false,false,false,false,false,false,false,false,false,false] rfl rfl (any_of HT_.out (by kernel_rfl)) (fun _ _ _ h=>h) (Or.inl ⟨by rfl,?_⟩) ?_ ?_
                       rotate_left
                       ·intro w'
                        go_simp
                        with_reducible rfl
                       rotate_left
                       ·simp only [Act.put,aA,aB,aC,i64_w,i32_w]
                        rfl
                       refine pure_ (i:=2) (N:=some 36) (v:=?_) (a':=?_) #[true,true,true,false,false,false,false,false,false,false,false,false,false,false,false,false,false,false,false,false,false,false,false,false,false] rfl rfl (any_of HT_.out (by kernel_rfl)) (fun _ _ _ h=>h) (Or.inl ⟨by rfl,?_⟩) ?_ ?_
                       rotate_left
                       ·intro w'
                        go_simp
                        with_reducible rfl
                       rotate_left
                       ·simp only [Act.put,aA,aB,aC,i64_w,i32_w]
                        rfl
                       refine pure_ (i:=4) (N:=some 38) (v:=?_) (a':=?_) #[true,true,true,false,true,false,false,false,false,false,false,false,false,false,false,false,false,false,false,false,false,false,false,false,false] rfl rfl (any_of HT_.out (by kernel_rfl)) (fun _ _ _ h=>h) (Or.inl ⟨by rfl,?_⟩) ?_ ?_
                       rotate_left
                       ·intro w'
                        go_simp
                        with_reducible rfl
                       rotate_left
                       ·simp only [Act.put,aA,aB,aC,i64_w,i32_w]
                        rfl
                       refine pure_ (i:=5) (N:=some 39) (v:=?_) (a':=?_) #[true,true,true,false,true,true,false,false,false,false,false,false,false,false,false,false,false,false,false,false,false,false,false,false,false] rfl rfl (any_of HT_.out (by kernel_rfl)) (fun _ _ _ h=>h) (Or.inl ⟨by rfl,?_⟩) ?_ ?_
                       rotate_left
                       ·intro w'
                        go_simp
                        with_reducible rfl
                       rotate_left
                       ·simp only [Act.put,aA,aB,aC,i64_w,i32_w]
                        rfl
                       refine pure_ (i:=6) (N:=some 40) (v:=?_) (a':=?_) #[true,true,true,false,true,true,true,false,false,false,false,false,false,false,false,false,false,false,false,false,false,false,false,false,false] rfl rfl (any_of HT_.out (by kernel_rfl)) (fun _ _ _ h=>h) (Or.inl ⟨by rfl,?_⟩) ?_ ?_
                       rotate_left
                       ·intro w'
                        go_simp
                        with_reducible rfl
                       rotate_left
                       ·simp only [Act.put,aA,aB,aC,i64_w,i32_w]
                        rfl
                       refine pure_ (i:=9) (N:=some 43) (v:=?_) (a':=?_) #[true,true,true,false,true,true,true,false,false,true,false,false,false,false,false,false,false,false,false,false,false,false,false,false,false] rfl rfl (any_of HT_.out (by kernel_rfl)) (fun _ _ _ h=>h) (Or.inl ⟨by rfl,?_⟩) ?_ ?_
                       rotate_left
                       ·intro w'
                        go_simp
                        with_reducible rfl
                       rotate_left
                       ·simp only [Act.put,aA,aB,aC,i64_w,i32_w]
                        rfl
                       refine pure_ (i:=10) (N:=some 44) (v:=?_) (a':=?_) #[true,true,true,false,true,true,true,false,false,true,true,false,false,false,false,false,false,false,false,false,false,false,false,false,false] rfl rfl (any_of HT_.out (by kernel_rfl)) (fun _ _ _ h=>h) (Or.inl ⟨by rfl,?_⟩) ?_ ?_
                       rotate_left
                       ·intro w'
                        go_simp
                        with_reducible rfl
                       rotate_left
                       ·simp only [Act.put,aA,aB,aC,i64_w,i32_w]
                        rfl
                       refine pure_ (i:=11) (N:=some 45) (v:=?_) (a':=?_) #[true,true,true,false,true,true,true,false,false,true,true,true,false,false,false,false,false,false,false,false,false,false,false,false,false] rfl rfl (any_of HT_.out (by kernel_rfl)) (fun _ _ _ h=>h) (Or.inl ⟨by rfl,?_⟩) ?_ ?_
                       rotate_left
                       ·intro w'
                        go_simp
                        with_reducible rfl
                       rotate_left
                       ·simp only [Act.put,aA,aB,aC,i64_w,i32_w]
                        rfl
                       refine pure_ (i:=13) (N:=some 47) (v:=?_) (a':=?_) #[true,true,true,false,true,true,true,false,false,true,true,true,false,true,false,false,false,false,false,false,false,false,false,false,false] rfl rfl (any_of HT_.out (by kernel_rfl)) (fun _ _ _ h=>h) (Or.inl ⟨by rfl,?_⟩) ?_ ?_
                       rotate_left
                       ·intro w'
                        go_simp
                        with_reducible rfl
                       rotate_left
                       ·simp only [Act.put,aA,aB,aC,i64_w,i32_w]
                        rfl
                       refine pure_ (i:=16) (N:=some 50) (v:=?_) (a':=?_) #[true,true,true,false,true,true,true,false,false,true,true,true,false,true,false,false,true,false,false,false,false,false,false,false,false] rfl rfl (any_of HT_.out (by kernel_rfl)) (fun _ _ _ h=>h) (Or.inl ⟨by rfl,?_⟩) ?_ ?_
                       rotate_left
                       ·intro w'
                        go_simp
                        with_reducible rfl
                       rotate_left
                       ·simp only [Act.put,aA,aB,aC,i64_w,i32_w]
                        rfl
                       refine pure_ (i:=17) (N:=some 51) (v:=?_) (a':=?_) #[true,true,true,false,true,true,true,false,false,true,true,true,false,true,false,false,true,true,false,false,false,false,false,false,false] rfl rfl (any_of HT_.out (by kernel_rfl)) (fun _ _ _ h=>h) (Or.inl ⟨by rfl,?_⟩) ?_ ?_
                       rotate_left
                       ·intro w'
                        go_simp
                        with_reducible rfl
                       rotate_left
                       ·simp only [Act.put,aA,aB,aC,i64_w,i32_w]
                        rfl
                       refine pure_ (i:=18) (N:=some 52) (v:=?_) (a':=?_) #[true,true,true,false,true,true,true,false,false,true,true,true,false,true,false,false,true,true,true,false,false,false,false,false,false] rfl rfl (any_of HT_.out (by kernel_rfl)) (fun _ _ _ h=>h) (Or.inl ⟨by rfl,?_⟩) ?_ ?_
                       rotate_left
                       ·intro w'
                        go_simp
                        with_reducible rfl
                       rotate_left
                       ·simp only [Act.put,aA,aB,aC,i64_w,i32_w]
                        rfl
                       refine pure_ (i:=19) (N:=some 53) (v:=?_) (a':=?_) #[true,true,true,false,true,true,true,false,false,true,true,true,false,true,false,false,true,true,true,true,false,false,false,false,false] rfl rfl (any_of HT_.out (by kernel_rfl)) (fun _ _ _ h=>h) (Or.inl ⟨by rfl,?_⟩) ?_ ?_
                       rotate_left
                       ·intro w'
                        go_simp
                        with_reducible rfl
                       rotate_left
                       ·simp only [Act.put,aA,aB,aC,i64_w,i32_w]
                        rfl
                       refine pure_ (i:=21) (N:=some 55) (v:=?_) (a':=?_) #[true,true,true,false,true,true,true,false,false,true,true,true,false,true,false,false,true,true,true,true,false,true,false,false,false] rfl rfl (any_of HT_.out (by kernel_rfl)) (fun _ _ _ h=>h) (Or.inl ⟨by rfl,?_⟩) ?_ ?_
                       rotate_left
                       ·intro w'
                        go_simp
                        with_reducible rfl
                       rotate_left
                       ·simp only [Act.put,aA,aB,aC,i64_w,i32_w]
                        rfl
                       refine take_ (i:=3) (N:=some 37) (v:=?_) (a':=?_) #[true,true,true,true,true,true,true,false,false,true,true,true,false,true,false,false,true,true,true,true,false,true,false,false,false] rfl rfl (take_ofW HT_.out HW_.out (by kernel_rfl)) (fun _ _ _ h=>h) (Or.inl ⟨by rfl,?_⟩) hHeld ?_ ?_
                       rotate_left
                       ·rintro w' ⟨s0,s1,s2,s3,s4⟩
                        go_simp
                        with_reducible rfl
                       rotate_left
                       ·simp only [Act.put,aA,aB,aC,i64_w,i32_w]
                        rfl
                       refine pure_ (i:=7) (N:=some 41) (v:=?_) (a':=?_) #[true,true,true,true,true,true,true,true,false,true,true,true,false,true,false,false,true,true,true,true,false,true,false,false,false] rfl rfl (any_of HT_.out (by kernel_rfl)) (fun _ _ _ h=>h) (Or.inl ⟨by rfl,?_⟩) ?_ ?_
                       rotate_left
                       ·intro w'
                        go_simp
                        with_reducible rfl
                       rotate_left
                       ·simp only [Act.put,aA,aB,aC,i64_w,i32_w]
                        rfl
                       refine take_ (i:=8) (N:=some 42) (v:=?_) (a':=?_) #[true,true,true,true,true,true,true,true,true,true,true,true,false,true,false,false,true,true,true,true,false,true,false,false,false] rfl rfl (take_ofW HT_.out HW_.out (by kernel_rfl)) (fun _ _ _ h=>h) (Or.inl ⟨by rfl,?_⟩) hHeld ?_ ?_
                       rotate_left
                       ·rintro w' ⟨s0,s1,s2,s3,s4⟩
                        go_simp
                        with_reducible rfl
                       rotate_left
                       ·simp only [Act.put,aA,aB,aC,i64_w,i32_w]
                        rfl
                       refine take_ (i:=12) (N:=some 46) (v:=?_) (a':=?_) #[true,true,true,true,true,true,true,true,true,true,true,true,true,true,false,false,true,true,true,true,false,true,false,false,false] rfl rfl (take_ofW HT_.out HW_.out (by kernel_rfl)) (fun _ _ _ h=>h) (Or.inl ⟨by rfl,?_⟩) hHeld ?_ ?_
                       rotate_left
                       ·rintro w' ⟨s0,s1,s2,s3,s4⟩
                        go_simp
                        with_reducible rfl
                       rotate_left
                       ·simp only [Act.put,aA,aB,aC,i64_w,i32_w]
                        rfl
                       refine take_ (i:=20) (N:=some 54) (v:=?_) (a':=?_) #[true,true,true,true,true,true,true,true,true,true,true,true,true,true,false,false,true,true,true,true,true,true,false,false,false] rfl rfl (take_ofW HT_.out HW_.out (by kernel_rfl)) (fun _ _ _ h=>h) (Or.inl ⟨by rfl,?_⟩) hHeld ?_ ?_
                       rotate_left
                       ·rintro w' ⟨s0,s1,s2,s3,s4⟩
                        go_simp
                        with_reducible rfl
                       rotate_left
                       ·simp only [Act.put,aA,aB,aC,i64_w,i32_w]
                        rfl
                       refine pure_ (i:=22) (N:=some 56) (v:=?_) (a':=?_) #[true,true,true,true,true,true,true,true,true,true,true,true,true,true,false,false,true,true,true,true,true,true,true,false,false] rfl rfl (any_of HT_.out (by kernel_rfl)) (fun _ _ _ h=>h) (Or.inl ⟨by rfl,?_⟩) ?_ ?_
                       rotate_left
                       ·intro w'
                        go_simp
                        with_reducible rfl
                       rotate_left
                       ·simp only [Act.put,aA,aB,aC,i64_w,i32_w]
                        rfl
                       refine take_ (i:=23) (N:=some 57) (v:=?_) (a':=?_) #[true,true,true,true,true,true,true,true,true,true,true,true,true,true,false,false,true,true,true,true,true,true,true,true,false] rfl rfl (take_ofW HT_.out HW_.out (by kernel_rfl)) (fun _ _ _ h=>h) (Or.inl ⟨by rfl,?_⟩) hHeld ?_ ?_
                       rotate_left
                       ·rintro w' ⟨s0,s1,s2,s3,s4⟩
                        go_simp
                        with_reducible rfl
                       rotate_left
                       ·simp only [Act.put,aA,aB,aC,i64_w,i32_w]
                        rfl
                       refine one_ (i:=14) (N:=some 48) #[true,true,true,true,true,true,true,true,true,true,true,true,true,true,true,false,true,true,true,true,true,true,true,true,false] rfl rfl (one_of HT_.out (by kernel_rfl)) (by decide) (fun K hK=>?_)
                       first|(refine goes_ Try.func147 (by kernel_rfl) rfl #[.agg #[.slice A113_0 ((rd_T53 l0 x10_2).f0).length c113_0],.int .i64 x11_3] (by rfl) rfl rfl (by (try simp only [aD,aE,aF]);first|done|rfl|(simp only [aG,aH];rfl)) ?_)|(refine call_ 147 #[.agg #[.slice A113_0 ((rd_T53 l0 x10_2).f0).length c113_0],.int .i64 x11_3] (by rfl) rfl (by unfold execOp;simp [resolve,Deferred.ofValue,invoke,Act.eval,enters_ Try.func147 (by kernel_rfl) rfl]) ?_)
                       with_reducible refine (spec_l6Gain.calls _ _ ((rd_T53 l0 x10_2).f0) x11_3 t114 _ ?side1 ?side2 A23.out).mono ?_
                       (case side1=>repeat (first|exact (Kd.C_below HR113_0.out HB.out)|(with_reducible refine Kd.Ql ?_ _)|(with_reducible refine Kd.Qm ?_ _)|(with_reducible refine Kd.C_drew ?_)))
                       (case side2=>exact HC113_0.out)
                       rintro e w34 ⟨rfl,hb⟩
                       have HS0_:=(hb.cell (aI _ _ (hHeld.1))).trans (hHeld.1);have HS1_:=(hb.cell (aI _ _ (hHeld.2.1))).trans (hHeld.2.1);have HS3_:=(hb.cell (aI _ _ (hHeld.2.2.2.1))).trans (hHeld.2.2.2.1);have HS4_:=(hb.cell (aI _ _ (hHeld.2.2.2.2))).trans (hHeld.2.2.2.2);refine ⟨_,rfl,?_⟩;have n0_:=aM (Kd.Qw (by (with_reducible repeat (first|apply Kd.Qp|apply Kd.Qo|apply Kd.N_drew));exact HO_7.out) hb);have n1_:=aM (Kd.Qr (by (with_reducible repeat (first|apply Kd.Qf|apply Kd.Qe|apply Kd.R_drew));exact HO_8.out) hb);have n2_:=aM (Kd.V_below (by (with_reducible repeat (first|apply Kd.V_alloc|apply Kd.V_drewN|apply Kd.V_drew));exact HL111_0.out) hb);have n3_:=aM (Kd.V_below (by (with_reducible repeat (first|apply Kd.V_alloc|apply Kd.V_drewN|apply Kd.V_drew));exact HL115_0.out) hb);have n4_:=aM (Kd.C_below (by repeat (first|(with_reducible exact HR111_0.out)|(with_reducible refine Kd.Ql ?_ _)|(with_reducible refine Kd.Qm ?_ _)|(with_reducible refine Kd.C_drew ?_)|exact HR111_0.out)) hb);have n5_:=aM (Kd.C_below (by repeat (first|(with_reducible exact HR115_0.out)|(with_reducible refine Kd.Ql ?_ _)|(with_reducible refine Kd.Qm ?_ _)|(with_reducible refine Kd.C_drew ?_)|exact HR115_0.out)) hb);have n6_:=aM (Qg (by repeat (first|(with_reducible first|exact HB.out|apply Qc|apply Qa|apply Qb)|exact HB.out)) hb);clear HO_7;clear HO_8;clear HL111_0;clear HL115_0;clear HR111_0;clear HR115_0;clear HB;have HO_7:=n0_;have HO_8:=n1_;have HL111_0:=n2_;have HL115_0:=n3_;have HR111_0:=n4_;have HR115_0:=n5_;have HB:=n6_;clear n0_ n1_ n2_ n3_ n4_ n5_ n6_;(try clear hb);(try clear hb2);(try clear hk);(try clear hi);refine hK.out _ _ ⟨HS0_,HS1_,((HB.out.cell (aI w _ hw113_0)).trans hw113_0),HS3_,HS4_⟩ (fun hHeld=>?_);clear hK K;refine norm_ (a':=?_) ?_ ?_
                       rotate_left
                       ·show Act.put _ (some 48) _=_
                        simp only [Act.put,aA,aB,aC,i64_w,i32_w]
                        rfl
                       refine pure_ (i:=15) (N:=some 49) (v:=?_) (a':=?_) #[true,true,true,true,true,true,true,true,true,true,true,true,true,true,true,true,true,true,true,true,true,true,true,true,false] rfl rfl (any_of HT_.out (by kernel_rfl)) (fun _ _ _ h=>h) (Or.inl ⟨by rfl,?_⟩) ?_ ?_
                       rotate_left
                       ·intro w'
                        go_simp
                        with_reducible rfl
                       rotate_left
                       ·simp only [Act.put,aA,aB,aC,i64_w,i32_w]
                        rfl
                       refine pure_ (i:=24) (N:=some 58) (v:=?_) (a':=?_) #[true,true,true,true,true,true,true,true,true,true,true,true,true,true,true,true,true,true,true,true,true,true,true,true,true] rfl rfl (any_of HT_.out (by kernel_rfl)) (fun _ _ _ h=>h) (Or.inl ⟨by rfl,?_⟩) ?_ ?_
                       rotate_left
                       ·intro w'
                        go_simp
                        with_reducible rfl
                       rotate_left
                       ·simp only [Act.put,aA,aB,aC,i64_w,i32_w]
                        rfl
                       refine done_ (done_of HT_.out (by kernel_rfl)) ?_;have p31:0≤(x10_2:Int):=of_decide_eq_true (by first|(with_reducible assumption)|assumption);have q31:(x10_2:Int)<((x8_2.length:Int):Int):=of_decide_eq_true (by first|(with_reducible assumption)|assumption);obtain ⟨go31,co31,eo31,gb31,gl31,cl31,HG31⟩:=Kd.R_form HO_8.out (by omega)
                       (first|cases eo31|(injection eo31 with ea_ en_ ec_;(first|subst ea_|(injection ea_ with ea_;subst ea_));subst ec_;clear en_))
                       have GB31:=aM gb31;have GG31:=aM HG31;clear gb31 gl31 HG31;obtain ⟨hx31_0,hf31_0⟩:=Kd.R_celln 0 HO_8.out (x10_2:Int) p31 q31;replace p31:=eq_true p31;replace q31:=eq_true q31;obtain ⟨hy35_,hz35_⟩:=Kd.R_celln 0 HO_8.out (x10_2:Int) (of_decide_eq_true (by first|(with_reducible assumption)|assumption)) (of_decide_eq_true (by first|(with_reducible assumption)|assumption));have HP35:=Kd.R_putg HO_8.out (x10_2:Int) x11_3
                       try go_wp2_with (first|((with_reducible refine gate_store (t:=3) (p:=64) rfl ?_);refine store_event (t:=3) (p:=64) (v:=?vo_w36) (w1:=(w34.setCell ⟨go31,(x10_2:Int).toNat,none⟩ (.int .i64 x11_3))) ?hg ?ho ?hn ?hr ?_;(case ho=>rfl);(case hg=>rfl);(case hn=>rfl);(case hr=>first|(go_simp;done)|(go_simp;rfl));intro w36 hw;have hg:w34.grownBy w36 (some go31):=(by rw [hw];exact HP35.2);have hp_:Kd.R (Kd.int .i64) 3 w36 w.heap.size (fun _=>True) (.slice (some ⟨go31,0,none⟩) x8_2.length co31) y117:=(by rw [hw,Ny117.out];exact HP35.1);clear HP35;have n0_:=aM (Kd.N_afterv (v:=(.slice (some ⟨go31,0,none⟩) x8_2.length co31)) (v1:=(.slice (some ⟨go31,0,none⟩) x8_2.length co31)) (ok:=(fun _=>True)) (by (with_reducible repeat (first|apply Kd.Qp|apply Kd.Qo|apply Kd.N_drew));exact Kd.N_mono HO_7.out (fun _ hk=>⟨trivial,hk⟩)) hg (.inl rfl));have n1_:=aM (hp_);have n2_:=aM (Kd.V_afterv (v:=(.slice (some ⟨go31,0,none⟩) x8_2.length co31)) (v1:=(.slice (some ⟨go31,0,none⟩) x8_2.length co31)) (ok:=(fun k_=>some k_≠(.slice (some ad111) t103.length co33:Value).ownBlock)) (by (with_reducible repeat (first|apply Kd.V_alloc|apply Kd.V_drewN|apply Kd.V_drew));exact Kd.V_mono HL111_0.out (fun _ hk=>⟨hk.2,hk.1⟩)) hg (.inl rfl));have n3_:=aM (Kd.V_afterv (v:=(.slice (some ⟨go31,0,none⟩) x8_2.length co31)) (v1:=(.slice (some ⟨go31,0,none⟩) x8_2.length co31)) (ok:=(fun k_=>some k_≠(.slice (some ad111) t103.length co33:Value).ownBlock)) (by (with_reducible repeat (first|apply Kd.V_alloc|apply Kd.V_drewN|apply Kd.V_drew));exact Kd.V_mono HL115_0.out (fun _ hk=>⟨hk.2,hk.1⟩)) hg (.inl rfl));have n4_:=aM ((by rw [hw];exact Qd (HB.out) GB31.out:Below w.heap.size w w36));clear HO_7;clear HO_8;clear HL111_0;clear HL115_0;clear HB;have HO_7:=n0_;have HO_8:=n1_;have HL111_0:=n2_;have HL115_0:=n3_;have HB:=n4_;clear n0_ n1_ n2_ n3_ n4_;clear hg hw hp_))
                       go_roundg k3
                       case measure=>have:=HJ2.out;have:=HK2.out;have:=HK3.out;omega
                       case rel=>exact ⟨(y117),(ji19),(wrap64 (x10_2 - 1)),(by first|rfl|(simp;done)|(simp only [←hji19] <;> (first|rfl|simp))|(simp [*];done)),(by first|rfl|(simp;done)|(simp [*];done)),H',⟨by have:=HJ2.out;have:=HK2.out;have:=HK3.out;omega⟩,⟨by (with_reducible repeat (first|apply Kd.Qp|apply Kd.Qo|apply Kd.N_drew));exact Kd.N_mono HO_7.out (fun _ hk=>hk.2)⟩,⟨by (with_reducible repeat (first|apply Kd.Qf|apply Kd.Qe|apply Kd.R_drew));exact HO_8.out⟩,⟨by repeat (first|(with_reducible first|exact HB.out|apply Qc|apply Qa|apply Qb)|exact HB.out)⟩⟩
                      ·rw [if_neg c30] at H;exact absurd H (by simp)
                     ·rw [if_neg c29] at H;have c29b0:((wrap64 ((rd (rd_L2 t103 x10_2) (ji19))+t114)) == (rd (rd_L2 t103 (ji24)) x9_2))=false:=beq_eq_false_iff_ne.mpr c29;have c29b1:((wrap64 ((rd (rd_L2 t103 x10_2) (ji19))+t114)) != (rd (rd_L2 t103 (ji24)) x9_2))=true:=bne_iff_ne.mpr c29;have H':=aM H;clear H
                      try go_wp2
                      have n0_:=aM (Kd.N_drew HO_7.out);have n1_:=aM (Kd.R_drew HO_8.out);have n2_:=aM (Qb HB.out);clear HO_7;clear HO_8;clear HB;have HO_7:=n0_;have HO_8:=n1_;have HB:=n2_;clear n0_ n1_ n2_;obtain ⟨Ao38,co38,eo38⟩:=Kd.N_slice HO_7.out
                      (first|subst eo38|(injection eo38 with f1_ f2_ f3_;have f4_:=f1_.symm;have f5_:=f3_.symm;clear f1_ f2_ f3_;subst f4_;subst f5_))
                      have p111:0≤(x10_2:Int):=of_decide_eq_true (by first|(with_reducible assumption)|assumption);have q111:x10_2<(t103.length:Int):=of_decide_eq_true (by first|(with_reducible assumption)|assumption);obtain ⟨ad111,A111_0,c111_0,e111,hx111_0,hl111_0,hi111_0⟩:=at_L2 (Kd.Qq HO_7.out).2.2 x10_2 p111 q111
                      cases e111
                      obtain ⟨ce111,hce111,hMe111,hcc111⟩:=Kd.N_get HO_7.out [] x10_2 p111 (by first|exact q111|exact of_decide_eq_true (by first|(with_reducible assumption)|assumption)|(have e_:=(Kd.Qq HO_7.out).1;omega));obtain ⟨ua111_0,uc111_0,rfl,ul111_0,ge111_0⟩:=Kd.FK_slice_open hMe111;have hv111_0:=hcc111 0 _ rfl;rw [Nat.add_zero,show ((Kd.slice 3 (Kd.int .i64))).sz=1 from rfl,Nat.mul_one] at hv111_0;replace hv111_0:=Option.some.inj (hv111_0.symm.trans hx111_0)
                      injection hv111_0 with hva_ hvn_ hvc_
                      rw [hva_] at ge111_0;rw [hvc_] at ul111_0;have HL111_0:=aM (show Kd.V (Kd.int .i64) 3 _ w.heap.size _ _ (rd_L2 t103 x10_2) from Kd.V_mk ul111_0 ge111_0);clear hva_ hvn_ hvc_ ge111_0 ul111_0;clear hcc111 hce111;have HR111_0:=aM hi111_0;have HC111_0:=aM hl111_0;clear hi111_0 hl111_0;replace p111:=eq_true p111;replace q111:=eq_true q111;have p112:0≤((ji19):Int):=of_decide_eq_true (by first|(with_reducible assumption)|assumption);have q112:(ji19)<((rd_L2 t103 x10_2).length:Int):=of_decide_eq_true (by first|(with_reducible assumption)|assumption);obtain ⟨ad112,e112,hx112_0⟩:=Kd.at_int (by repeat (first|(with_reducible exact HR111_0.out)|(with_reducible refine Kd.Ql ?_ _)|(with_reducible refine Kd.Qm ?_ _)|(with_reducible refine Kd.C_drew ?_)|exact HR111_0.out)) (ji19) p112 q112
                      cases e112
                      replace p112:=eq_true p112;replace q112:=eq_true q112;have p113:0≤(x10_2:Int):=of_decide_eq_true (by first|(with_reducible assumption)|assumption);have q113:x10_2<(l0.length:Int):=of_decide_eq_true (by first|(with_reducible assumption)|assumption);obtain ⟨ad113,A113_0,c113_0,e113,hx113_0,hl113_0,hi113_0⟩:=at_T53 HR0.out x10_2 p113 q113;have hw113_0:=hx113_0
                      cases e113
                      replace hx113_0:=(HB.out.cell (aI w _ hx113_0)).trans hx113_0;have HR113_0:=aM hi113_0;have HC113_0:=aM hl113_0;clear hi113_0 hl113_0;replace p113:=eq_true p113;replace q113:=eq_true q113;have p115:0≤((ji24):Int):=of_decide_eq_true (by first|(with_reducible assumption)|assumption);have q115:(ji24)<(t103.length:Int):=of_decide_eq_true (by first|(with_reducible assumption)|assumption);obtain ⟨ad115,A115_0,c115_0,e115,hx115_0,hl115_0,hi115_0⟩:=at_L2 (Kd.Qq HO_7.out).2.2 (ji24) p115 q115;obtain rfl:ad111=ad115:=(by injection e115);obtain ⟨ce115,hce115,hMe115,hcc115⟩:=Kd.N_get HO_7.out [] (ji24) p115 (by first|exact q115|exact of_decide_eq_true (by first|(with_reducible assumption)|assumption)|(have e_:=(Kd.Qq HO_7.out).1;omega));obtain ⟨ua115_0,uc115_0,rfl,ul115_0,ge115_0⟩:=Kd.FK_slice_open hMe115;have hv115_0:=hcc115 0 _ rfl;rw [Nat.add_zero,show ((Kd.slice 3 (Kd.int .i64))).sz=1 from rfl,Nat.mul_one] at hv115_0;replace hv115_0:=Option.some.inj (hv115_0.symm.trans hx115_0)
                      injection hv115_0 with hva_ hvn_ hvc_
                      rw [hva_] at ge115_0;rw [hvc_] at ul115_0;have HL115_0:=aM (show Kd.V (Kd.int .i64) 3 _ w.heap.size _ _ (rd_L2 t103 (ji24)) from Kd.V_mk ul115_0 ge115_0);clear hva_ hvn_ hvc_ ge115_0 ul115_0;clear hcc115 hce115;have HR115_0:=aM hi115_0;have HC115_0:=aM hl115_0;clear hi115_0 hl115_0;replace p115:=eq_true p115;replace q115:=eq_true q115;have p116:0≤(x9_2:Int):=of_decide_eq_true (by first|(with_reducible assumption)|assumption);have q116:x9_2<((rd_L2 t103 (ji24)).length:Int):=of_decide_eq_true (by first|(with_reducible assumption)|assumption);obtain ⟨ad116,e116,hx116_0⟩:=Kd.at_int (by repeat (first|(with_reducible exact HR115_0.out)|(with_reducible refine Kd.Ql ?_ _)|(with_reducible refine Kd.Qm ?_ _)|(with_reducible refine Kd.C_drew ?_)|exact HR115_0.out)) x9_2 p116 q116
                      cases e116
                      replace p116:=eq_true p116;replace q116:=eq_true q116;refine start_ (n:=25) (S:=fun w'=>w'.cell? (ad111.add (x10_2).toNat)=some (.slice (some ad112) (rd_L2 t103 x10_2).length c111_0)∧w'.cell? (ad112.add ((ji19)).toNat)=some (.int .i64 (rd (rd_L2 t103 x10_2) (ji19)))∧w'.cell? (ad113.add (x10_2).toNat)=some (.slice A113_0 ((rd_T53 l0 x10_2).f0).length c113_0)∧w'.cell? (ad111.add ((ji24)).toNat)=some (.slice (some ad116) (rd_L2 t103 (ji24)).length c115_0)∧w'.cell? (ad116.add (x9_2).toNat)=some (.int .i64 (rd (rd_L2 t103 (ji24)) x9_2))) (ds:=[]) #[false,false,false,false,false,false,false,false,false,false,false,false,false,false,false,false,false,false,false,false,false,false,false,false,false] (by kernel_rfl) rfl rfl ⟨hx111_0,hx112_0,((HB.out.cell (aI w _ hw113_0)).trans hw113_0),hx115_0,hx116_0⟩ (fun hHeld=>?_);refine with_tabW spec_BestChoice.tab10 spec_BestChoice.bits10 (fun HT_ HW_=>?_)
                      generalize wr.drew=w37 at HO_7 HO_8 HB HL111_0 HL115_0 HR111_0 HR113_0 HR115_0 hx111_0 hx112_0 hx113_0 hx115_0 hx116_0 hHeld ⊢
                      refine pure_ (i:=0) (N:=some 34) (v:=?_) (a':=?_) #[true,false,false,false,false,false,false,false,false,false,false,false,false,false,false,false,false,false,false,false,false,false,false,false,false] rfl rfl (any_of HT_.out (by kernel_rfl)) (fun _ _ _ h=>h) (Or.inl ⟨by rfl,?_⟩) ?_ ?_
                      rotate_left
                      ·intro w'
                       go_simp
                       with_reducible rfl
                      rotate_left
                      ·simp only [Act.put,aA,aB,aC,i64_w,i32_w]
                       rfl
                      refine pure_ (i:=1) (N:=some 35) (v:=?_) (a':=?_) #[true,true,false,false,false,false,false,false,false,false,false,false,false,false,false,false,false,false,false,false,false,false,false,false,false] rfl rfl (any_of HT_.out (by kernel_rfl)) (fun _ _ _ h=>h) (Or.inl ⟨by rfl,?_⟩) ?_ ?_
                      rotate_left
                      ·intro w'
                       go_simp
                       with_reducible rfl
                      rotate_left
                      ·simp only [Act.put,aA,aB,aC,i64_w,i32_w]
                       rfl
                      refine pure_ (i:=2) (N:=some 36) (v:=?_) (a':=?_) #[true,true,true,false,false,false,false,false,false,false,false,false,false,false,false,false,false,false,false,false,false,false,false,false,false] rfl rfl (any_of HT_.out (by kernel_rfl)) (fun _ _ _ h=>h) (Or.inl ⟨by rfl,?_⟩) ?_ ?_
                      rotate_left
                      ·intro w'
                       go_simp
                       with_reducible rfl
                      rotate_left
                      ·simp only [Act.put,aA,aB,aC,i64_w,i32_w]
                       rfl
                      refine pure_ (i:=4) (N:=some 38) (v:=?_) (a':=?_) #[true,true,true,false,true,false,false,false,false,false,false,false,false,false,false,false,false,false,false,false,false,false,false,false,false] rfl rfl (any_of HT_.out (by kernel_rfl)) (fun _ _ _ h=>h) (Or.inl ⟨by rfl,?_⟩) ?_ ?_
                      rotate_left
                      ·intro w'
                       go_simp
                       with_reducible rfl
                      rotate_left
                      ·simp only [Act.put,aA,aB,aC,i64_w,i32_w]
                       rfl
                      refine pure_ (i:=5) (N:=some 39) (v:=?_) (a':=?_) #[true,true,true,false,true,true,false,false,false,false,false,false,false,false,false,false,false,false,false,false,false,false,false,false,false] rfl rfl (any_of HT_.out (by kernel_rfl)) (fun _ _ _ h=>h) (Or.inl ⟨by rfl,?_⟩) ?_ ?_
                      rotate_left
                      ·intro w'
                       go_simp
                       with_reducible rfl
                      rotate_left
                      ·simp only [Act.put,aA,aB,aC,i64_w,i32_w]
                       rfl
                      refine pure_ (i:=6) (N:=some 40) (v:=?_) (a':=?_) #[true,true,true,false,true,true,true,false,false,false,false,false,false,false,false,false,false,false,false,false,false,false,false,false,false] rfl rfl (any_of HT_.out (by kernel_rfl)) (fun _ _ _ h=>h) (Or.inl ⟨by rfl,?_⟩) ?_ ?_
                      rotate_left
                      ·intro w'
                       go_simp
                       with_reducible rfl
                      rotate_left
                      ·simp only [Act.put,aA,aB,aC,i64_w,i32_w]
                       rfl
                      refine pure_ (i:=9) (N:=some 43) (v:=?_) (a':=?_) #[true,true,true,false,true,true,true,false,false,true,false,false,false,false,false,false,false,false,false,false,false,false,false,false,false] rfl rfl (any_of HT_.out (by kernel_rfl)) (fun _ _ _ h=>h) (Or.inl ⟨by rfl,?_⟩) ?_ ?_
                      rotate_left
                      ·intro w'
                       go_simp
                       with_reducible rfl
                      rotate_left
                      ·simp only [Act.put,aA,aB,aC,i64_w,i32_w]
                       rfl
                      refine pure_ (i:=10) (N:=some 44) (v:=?_) (a':=?_) #[true,true,true,false,true,true,true,false,false,true,true,false,false,false,false,false,false,false,false,false,false,false,false,false,false] rfl rfl (any_of HT_.out (by kernel_rfl)) (fun _ _ _ h=>h) (Or.inl ⟨by rfl,?_⟩) ?_ ?_
                      rotate_left
                      ·intro w'
                       go_simp
                       with_reducible rfl
                      rotate_left
                      ·simp only [Act.put,aA,aB,aC,i64_w,i32_w]
                       rfl
                      refine pure_ (i:=11) (N:=some 45) (v:=?_) (a':=?_) #[true,true,true,false,true,true,true,false,false,true,true,true,false,false,false,false,false,false,false,false,false,false,false,false,false] rfl rfl (any_of HT_.out (by kernel_rfl)) (fun _ _ _ h=>h) (Or.inl ⟨by rfl,?_⟩) ?_ ?_
                      rotate_left
                      ·intro w'
                       go_simp
                       with_reducible rfl
                      rotate_left
                      ·simp only [Act.put,aA,aB,aC,i64_w,i32_w]
                       rfl
                      refine pure_ (i:=13) (N:=some 47) (v:=?_) (a':=?_) #[true,true,true,false,true,true,true,false,false,true,true,true,false,true,false,false,false,false,false,false,false,false,false,false,false] rfl rfl (any_of HT_.out (by kernel_rfl)) (fun _ _ _ h=>h) (Or.inl ⟨by rfl,?_⟩) ?_ ?_
                      rotate_left
                      ·intro w'
                       go_simp
                       with_reducible rfl
                      rotate_left
                      ·simp only [Act.put,aA,aB,aC,i64_w,i32_w]
                       rfl
                      refine pure_ (i:=16) (N:=some 50) (v:=?_) (a':=?_) #[true,true,true,false,true,true,true,false,false,true,true,true,false,true,false,false,true,false,false,false,false,false,false,false,false] rfl rfl (any_of HT_.out (by kernel_rfl)) (fun _ _ _ h=>h) (Or.inl ⟨by rfl,?_⟩) ?_ ?_
                      rotate_left
                      ·intro w'
                       go_simp
                       with_reducible rfl
                      rotate_left
                      ·simp only [Act.put,aA,aB,aC,i64_w,i32_w]
                       rfl
                      refine pure_ (i:=17) (N:=some 51) (v:=?_) (a':=?_) #[true,true,true,false,true,true,true,false,false,true,true,true,false,true,false,false,true,true,false,false,false,false,false,false,false] rfl rfl (any_of HT_.out (by kernel_rfl)) (fun _ _ _ h=>h) (Or.inl ⟨by rfl,?_⟩) ?_ ?_
                      rotate_left
                      ·intro w'
                       go_simp
                       with_reducible rfl
                      rotate_left
                      ·simp only [Act.put,aA,aB,aC,i64_w,i32_w]
                       rfl
                      refine pure_ (i:=18) (N:=some 52) (v:=?_) (a':=?_) #[true,true,true,false,true,true,true,false,false,true,true,true,false,true,false,false,true,true,true,false,false,false,false,false,false] rfl rfl (any_of HT_.out (by kernel_rfl)) (fun _ _ _ h=>h) (Or.inl ⟨by rfl,?_⟩) ?_ ?_
                      rotate_left
                      ·intro w'
                       go_simp
                       with_reducible rfl
                      rotate_left
                      ·simp only [Act.put,aA,aB,aC,i64_w,i32_w]
                       rfl
                      refine pure_ (i:=19) (N:=some 53) (v:=?_) (a':=?_) #[true,true,true,false,true,true,true,false,false,true,true,true,false,true,false,false,true,true,true,true,false,false,false,false,false] rfl rfl (any_of HT_.out (by kernel_rfl)) (fun _ _ _ h=>h) (Or.inl ⟨by rfl,?_⟩) ?_ ?_
                      rotate_left
                      ·intro w'
                       go_simp
                       with_reducible rfl
                      rotate_left
                      ·simp only [Act.put,aA,aB,aC,i64_w,i32_w]
                       rfl
                      refine pure_ (i:=21) (N:=some 55) (v:=?_) (a':=?_) #[true,true,true,false,true,true,true,false,false,true,true,true,false,true,false,false,true,true,true,true,false,true,false,false,false] rfl rfl (any_of HT_.out (by kernel_rfl)) (fun _ _ _ h=>h) (Or.inl ⟨by rfl,?_⟩) ?_ ?_
                      rotate_left
                      ·intro w'
                       go_simp
                       with_reducible rfl
                      rotate_left
                      ·simp only [Act.put,aA,aB,aC,i64_w,i32_w]
                       rfl
                      refine take_ (i:=3) (N:=some 37) (v:=?_) (a':=?_) #[true,true,true,true,true,true,true,false,false,true,true,true,false,true,false,false,true,true,true,true,false,true,false,false,false] rfl rfl (take_ofW HT_.out HW_.out (by kernel_rfl)) (fun _ _ _ h=>h) (Or.inl ⟨by rfl,?_⟩) hHeld ?_ ?_
                      rotate_left
                      ·rintro w' ⟨s0,s1,s2,s3,s4⟩
                       go_simp
                       with_reducible rfl
                      rotate_left
                      ·simp only [Act.put,aA,aB,aC,i64_w,i32_w]
                       rfl
                      refine pure_ (i:=7) (N:=some 41) (v:=?_) (a':=?_) #[true,true,true,true,true,true,true,true,false,true,true,true,false,true,false,false,true,true,true,true,false,true,false,false,false] rfl rfl (any_of HT_.out (by kernel_rfl)) (fun _ _ _ h=>h) (Or.inl ⟨by rfl,?_⟩) ?_ ?_
                      rotate_left
                      ·intro w'
                       go_simp
                       with_reducible rfl
                      rotate_left
                      ·simp only [Act.put,aA,aB,aC,i64_w,i32_w]
                       rfl
                      refine take_ (i:=8) (N:=some 42) (v:=?_) (a':=?_) #[true,true,true,true,true,true,true,true,true,true,true,true,false,true,false,false,true,true,true,true,false,true,false,false,false] rfl rfl (take_ofW HT_.out HW_.out (by kernel_rfl)) (fun _ _ _ h=>h) (Or.inl ⟨by rfl,?_⟩) hHeld ?_ ?_
                      rotate_left
                      ·rintro w' ⟨s0,s1,s2,s3,s4⟩
                       go_simp
                       with_reducible rfl
                      rotate_left
                      ·simp only [Act.put,aA,aB,aC,i64_w,i32_w]
                       rfl
                      refine take_ (i:=12) (N:=some 46) (v:=?_) (a':=?_) #[true,true,true,true,true,true,true,true,true,true,true,true,true,true,false,false,true,true,true,true,false,true,false,false,false] rfl rfl (take_ofW HT_.out HW_.out (by kernel_rfl)) (fun _ _ _ h=>h) (Or.inl ⟨by rfl,?_⟩) hHeld ?_ ?_
                      rotate_left
                      ·rintro w' ⟨s0,s1,s2,s3,s4⟩
                       go_simp
                       with_reducible rfl
                      rotate_left
                      ·simp only [Act.put,aA,aB,aC,i64_w,i32_w]
                       rfl
                      refine take_ (i:=20) (N:=some 54) (v:=?_) (a':=?_) #[true,true,true,true,true,true,true,true,true,true,true,true,true,true,false,false,true,true,true,true,true,true,false,false,false] rfl rfl (take_ofW HT_.out HW_.out (by kernel_rfl)) (fun _ _ _ h=>h) (Or.inl ⟨by rfl,?_⟩) hHeld ?_ ?_
                      rotate_left
                      ·rintro w' ⟨s0,s1,s2,s3,s4⟩
                       go_simp
                       with_reducible rfl
                      rotate_left
                      ·simp only [Act.put,aA,aB,aC,i64_w,i32_w]
                       rfl
                      refine pure_ (i:=22) (N:=some 56) (v:=?_) (a':=?_) #[true,true,true,true,true,true,true,true,true,true,true,true,true,true,false,false,true,true,true,true,true,true,true,false,false] rfl rfl (any_of HT_.out (by kernel_rfl)) (fun _ _ _ h=>h) (Or.inl ⟨by rfl,?_⟩) ?_ ?_
                      rotate_left
                      ·intro w'
                       go_simp
                       with_reducible rfl
                      rotate_left
                      ·simp only [Act.put,aA,aB,aC,i64_w,i32_w]
                       rfl
                      refine take_ (i:=23) (N:=some 57) (v:=?_) (a':=?_) #[true,true,true,true,true,true,true,true,true,true,true,true,true,true,false,false,true,true,true,true,true,true,true,true,false] rfl rfl (take_ofW HT_.out HW_.out (by kernel_rfl)) (fun _ _ _ h=>h) (Or.inl ⟨by rfl,?_⟩) hHeld ?_ ?_
                      rotate_left
                      ·rintro w' ⟨s0,s1,s2,s3,s4⟩
                       go_simp
                       with_reducible rfl
                      rotate_left
                      ·simp only [Act.put,aA,aB,aC,i64_w,i32_w]
                       rfl
                      refine one_ (i:=14) (N:=some 48) #[true,true,true,true,true,true,true,true,true,true,true,true,true,true,true,false,true,true,true,true,true,true,true,true,false] rfl rfl (one_of HT_.out (by kernel_rfl)) (by decide) (fun K hK=>?_)
                      first|(refine goes_ Try.func147 (by kernel_rfl) rfl #[.agg #[.slice A113_0 ((rd_T53 l0 x10_2).f0).length c113_0],.int .i64 x11_3] (by rfl) rfl rfl (by (try simp only [aD,aE,aF]);first|done|rfl|(simp only [aG,aH];rfl)) ?_)|(refine call_ 147 #[.agg #[.slice A113_0 ((rd_T53 l0 x10_2).f0).length c113_0],.int .i64 x11_3] (by rfl) rfl (by unfold execOp;simp [resolve,Deferred.ofValue,invoke,Act.eval,enters_ Try.func147 (by kernel_rfl) rfl]) ?_)
                      with_reducible refine (spec_l6Gain.calls _ _ ((rd_T53 l0 x10_2).f0) x11_3 t114 _ ?side1 ?side2 A23.out).mono ?_
                      (case side1=>repeat (first|exact (Kd.C_below HR113_0.out HB.out)|(with_reducible refine Kd.Ql ?_ _)|(with_reducible refine Kd.Qm ?_ _)|(with_reducible refine Kd.C_drew ?_)))
                      (case side2=>exact HC113_0.out)
                      rintro e w39 ⟨rfl,hb⟩
                      have HS0_:=(hb.cell (aI _ _ (hHeld.1))).trans (hHeld.1);have HS1_:=(hb.cell (aI _ _ (hHeld.2.1))).trans (hHeld.2.1);have HS3_:=(hb.cell (aI _ _ (hHeld.2.2.2.1))).trans (hHeld.2.2.2.1);have HS4_:=(hb.cell (aI _ _ (hHeld.2.2.2.2))).trans (hHeld.2.2.2.2);refine ⟨_,rfl,?_⟩;have n0_:=aM (Kd.Qw (by (with_reducible repeat (first|apply Kd.Qp|apply Kd.Qo|apply Kd.N_drew));exact HO_7.out) hb);have n1_:=aM (Kd.Qr (by (with_reducible repeat (first|apply Kd.Qf|apply Kd.Qe|apply Kd.R_drew));exact HO_8.out) hb);have n2_:=aM (Kd.V_below (by (with_reducible repeat (first|apply Kd.V_alloc|apply Kd.V_drewN|apply Kd.V_drew));exact HL111_0.out) hb);have n3_:=aM (Kd.V_below (by (with_reducible repeat (first|apply Kd.V_alloc|apply Kd.V_drewN|apply Kd.V_drew));exact HL115_0.out) hb);have n4_:=aM (Kd.C_below (by repeat (first|(with_reducible exact HR111_0.out)|(with_reducible refine Kd.Ql ?_ _)|(with_reducible refine Kd.Qm ?_ _)|(with_reducible refine Kd.C_drew ?_)|exact HR111_0.out)) hb);have n5_:=aM (Kd.C_below (by repeat (first|(with_reducible exact HR115_0.out)|(with_reducible refine Kd.Ql ?_ _)|(with_reducible refine Kd.Qm ?_ _)|(with_reducible refine Kd.C_drew ?_)|exact HR115_0.out)) hb);have n6_:=aM (Qg (by repeat (first|(with_reducible first|exact HB.out|apply Qc|apply Qa|apply Qb)|exact HB.out)) hb);clear HO_7;clear HO_8;clear HL111_0;clear HL115_0;clear HR111_0;clear HR115_0;clear HB;have HO_7:=n0_;have HO_8:=n1_;have HL111_0:=n2_;have HL115_0:=n3_;have HR111_0:=n4_;have HR115_0:=n5_;have HB:=n6_;clear n0_ n1_ n2_ n3_ n4_ n5_ n6_;(try clear hb);(try clear hb2);(try clear hk);(try clear hi);refine hK.out _ _ ⟨HS0_,HS1_,((HB.out.cell (aI w _ hw113_0)).trans hw113_0),HS3_,HS4_⟩ (fun hHeld=>?_);clear hK K;refine norm_ (a':=?_) ?_ ?_
                      rotate_left
                      ·show Act.put _ (some 48) _=_
                       simp only [Act.put,aA,aB,aC,i64_w,i32_w]
                       rfl
                      refine pure_ (i:=15) (N:=some 49) (v:=?_) (a':=?_) #[true,true,true,true,true,true,true,true,true,true,true,true,true,true,true,true,true,true,true,true,true,true,true,true,false] rfl rfl (any_of HT_.out (by kernel_rfl)) (fun _ _ _ h=>h) (Or.inl ⟨by rfl,?_⟩) ?_ ?_
                      rotate_left
                      ·intro w'
                       go_simp
                       with_reducible rfl
                      rotate_left
                      ·simp only [Act.put,aA,aB,aC,i64_w,i32_w]
                       rfl
                      refine pure_ (i:=24) (N:=some 58) (v:=?_) (a':=?_) #[true,true,true,true,true,true,true,true,true,true,true,true,true,true,true,true,true,true,true,true,true,true,true,true,true] rfl rfl (any_of HT_.out (by kernel_rfl)) (fun _ _ _ h=>h) (Or.inl ⟨by rfl,?_⟩) ?_ ?_
                      rotate_left
                      ·intro w'
                       go_simp
                       with_reducible rfl
                      rotate_left
                      ·simp only [Act.put,aA,aB,aC,i64_w,i32_w]
                       rfl
                      refine done_ (done_of HT_.out (by kernel_rfl)) ?_
                      try go_wp2
                      go_roundg k3
                      case measure=>have:=HJ2.out;have:=HK2.out;have:=HK3.out;omega
                      case rel=>exact ⟨(wrap64 (x11_3+1)),(by first|rfl|(simp;done)|(simp [*];done)),H',⟨by have:=HJ2.out;have:=HK2.out;have:=HK3.out;omega⟩,⟨by (with_reducible repeat (first|apply Kd.Qp|apply Kd.Qo|apply Kd.N_drew));exact HO_7.out⟩,⟨by (with_reducible repeat (first|apply Kd.Qf|apply Kd.Qe|apply Kd.R_drew));exact HO_8.out⟩,⟨by repeat (first|(with_reducible first|exact HB.out|apply Qc|apply Qa|apply Qb)|exact HB.out)⟩⟩
                    ·rw [if_neg c28] at H;exact absurd H (by simp)
                   ·rw [if_neg c27] at H;exact absurd H (by simp)
                  ·rw [if_neg c26] at H;exact absurd H (by simp)
                 ·rw [if_neg c25] at H;exact absurd H (by simp)
                ·rw [if_neg c22] at H;exact absurd H (by simp)
               ·rw [if_neg c21] at H;exact absurd H (by simp)
              ·rw [if_neg c20] at H;exact absurd H (by simp)
             ·rw [if_neg c18] at H;exact absurd H (by simp)
            ·rw [if_neg c17] at H;exact absurd H (by simp)
         ·rw [if_neg c16] at H;have c16b0:decide (0≤x10_2)=false:=decide_eq_false c16;clear c16;by_cases c40:0≤(l0.length:Int)
          ·rw [if_pos c40] at H;have c40b0:decide (0≤(l0.length:Int))=true:=decide_eq_true c40;have c40b1:decide (0≤l0.length)=true:=decide_eq_true (by omega);clear c40;by_cases c41:(l0.length:Int)<(t103.length:Int)
           ·rw [if_pos c41] at H;have c41b0:decide ((l0.length:Int)<(t103.length:Int))=true:=decide_eq_true c41;have c41b1:decide (l0.length<t103.length)=true:=decide_eq_true (Int.ofNat_lt.mp c41);clear c41;by_cases c42:0≤a1
            ·rw [if_pos c42] at H;have c42b0:decide (0≤a1)=true:=decide_eq_true c42;clear c42;by_cases c43:a1<((rd_L2 t103 (l0.length:Int)).length:Int)
             ·rw [if_pos c43] at H;have c43b0:decide (a1<((rd_L2 t103 (l0.length:Int)).length:Int))=true:=decide_eq_true c43;clear c43;simp only [Option.some.injEq,Prod.mk.injEq] at H;obtain ⟨rfl,rfl,rfl⟩:=H
              try go_wp2
              have n0_:=aM (Kd.N_drew HO_7.out);have n1_:=aM (Kd.R_drew HO_8.out);have n2_:=aM (Qb HB.out);clear HO_7;clear HO_8;clear HB;have HO_7:=n0_;have HO_8:=n1_;have HB:=n2_;clear n0_ n1_ n2_;obtain ⟨Ao45,co45,eo45⟩:=Kd.N_slice HO_7.out
              (first|subst eo45|(injection eo45 with f1_ f2_ f3_;have f4_:=f1_.symm;have f5_:=f3_.symm;clear f1_ f2_ f3_;subst f4_;subst f5_))
              have p109:0≤((l0.length:Int):Int):=of_decide_eq_true (by first|(with_reducible assumption)|assumption);have q109:(l0.length:Int)<(t103.length:Int):=of_decide_eq_true (by first|(with_reducible assumption)|assumption);obtain ⟨ad109,A109_0,c109_0,e109,hx109_0,hl109_0,hi109_0⟩:=at_L2 (Kd.Qq HO_7.out).2.2 (l0.length:Int) p109 q109
              cases e109
              obtain ⟨ce109,hce109,hMe109,hcc109⟩:=Kd.N_get HO_7.out [] (l0.length:Int) p109 (by first|exact q109|exact of_decide_eq_true (by first|(with_reducible assumption)|assumption)|(have e_:=(Kd.Qq HO_7.out).1;omega));obtain ⟨ua109_0,uc109_0,rfl,ul109_0,ge109_0⟩:=Kd.FK_slice_open hMe109;have hv109_0:=hcc109 0 _ rfl;rw [Nat.add_zero,show ((Kd.slice 3 (Kd.int .i64))).sz=1 from rfl,Nat.mul_one] at hv109_0;replace hv109_0:=Option.some.inj (hv109_0.symm.trans hx109_0)
              injection hv109_0 with hva_ hvn_ hvc_
              rw [hva_] at ge109_0;rw [hvc_] at ul109_0;have HL109_0:=aM (show Kd.V (Kd.int .i64) 3 _ w.heap.size _ _ (rd_L2 t103 (l0.length:Int)) from Kd.V_mk ul109_0 ge109_0);clear hva_ hvn_ hvc_ ge109_0 ul109_0;clear hcc109 hce109;have HR109_0:=aM hi109_0;have HC109_0:=aM hl109_0;clear hi109_0 hl109_0;(try simp only [Go.IntWalk.toNatUp] at hx109_0);replace p109:=eq_true p109;replace q109:=eq_true q109;have p110:0≤(a1:Int):=of_decide_eq_true (by first|(with_reducible assumption)|assumption);have q110:a1<((rd_L2 t103 (l0.length:Int)).length:Int):=of_decide_eq_true (by first|(with_reducible assumption)|assumption);obtain ⟨ad110,e110,hx110_0⟩:=Kd.at_int (by repeat (first|(with_reducible exact HR109_0.out)|(with_reducible refine Kd.Ql ?_ _)|(with_reducible refine Kd.Qm ?_ _)|(with_reducible refine Kd.C_drew ?_)|exact HR109_0.out)) a1 p110 q110
              cases e110
              replace p110:=eq_true p110;replace q110:=eq_true q110;refine start_ (n:=12) (S:=fun w'=>w'.cell? (ad109.add l0.length)=some (.slice (some ad110) (rd_L2 t103 (l0.length:Int)).length c109_0)∧w'.cell? (ad110.add (a1).toNat)=some (.int .i64 (rd (rd_L2 t103 (l0.length:Int)) a1))) (ds:=[]) #[false,false,false,false,false,false,false,false,false,false,false,false] (by kernel_rfl) rfl rfl ⟨hx109_0,hx110_0⟩ (fun hHeld=>?_);refine with_tabW spec_BestChoice.tab14 spec_BestChoice.bits14 (fun HT_ HW_=>?_)
              generalize wr.drew=w44 at HO_7 HO_8 HB HL109_0 HR109_0 hx109_0 hx110_0 hHeld ⊢
              refine pure_ (i:=0) (N:=some 68) (v:=?_) (a':=?_) #[true,false,false,false,false,false,false,false,false,false,false,false] rfl rfl (any_of HT_.out (by kernel_rfl)) (fun _ _ _ h=>h) (Or.inl ⟨by rfl,?_⟩) ?_ ?_
              rotate_left
              ·intro w'
               go_simp
               with_reducible rfl
              rotate_left
              ·simp only [Act.put,aA,aB,aC,i64_w,i32_w]
               rfl
              refine pure_ (i:=1) (N:=some 69) (v:=?_) (a':=?_) #[true,true,false,false,false,false,false,false,false,false,false,false] rfl rfl (any_of HT_.out (by kernel_rfl)) (fun _ _ _ h=>h) (Or.inl ⟨by rfl,?_⟩) ?_ ?_
              rotate_left
              ·intro w'
               go_simp
               with_reducible rfl
              rotate_left
              ·simp only [Act.put,aA,aB,aC,i64_w,i32_w]
               rfl
              refine pure_ (i:=2) (N:=some 70) (v:=?_) (a':=?_) #[true,true,true,false,false,false,false,false,false,false,false,false] rfl rfl (any_of HT_.out (by kernel_rfl)) (fun _ _ _ h=>h) (Or.inl ⟨by rfl,?_⟩) ?_ ?_
              rotate_left
              ·intro w'
               go_simp
               with_reducible rfl
              rotate_left
              ·simp only [Act.put,aA,aB,aC,i64_w,i32_w]
               rfl
              refine pure_ (i:=3) (N:=some 71) (v:=?_) (a':=?_) #[true,true,true,true,false,false,false,false,false,false,false,false] rfl rfl (any_of HT_.out (by kernel_rfl)) (fun _ _ _ h=>h) (Or.inl ⟨by rfl,?_⟩) ?_ ?_
              rotate_left
              ·intro w'
               go_simp
               with_reducible rfl
              rotate_left
              ·simp only [Act.put,aA,aB,aC,i64_w,i32_w]
               rfl
              refine pure_ (i:=4) (N:=some 72) (v:=?_) (a':=?_) #[true,true,true,true,true,false,false,false,false,false,false,false] rfl rfl (any_of HT_.out (by kernel_rfl)) (fun _ _ _ h=>h) (Or.inl ⟨by rfl,?_⟩) ?_ ?_
              rotate_left
              ·intro w'
               go_simp
               with_reducible rfl
              rotate_left
              ·simp only [Act.put,aA,aB,aC,i64_w,i32_w]
               rfl
              refine pure_ (i:=6) (N:=some 74) (v:=?_) (a':=?_) #[true,true,true,true,true,false,true,false,false,false,false,false] rfl rfl (any_of HT_.out (by kernel_rfl)) (fun _ _ _ h=>h) (Or.inl ⟨by rfl,?_⟩) ?_ ?_
              rotate_left
              ·intro w'
               go_simp
               with_reducible rfl
              rotate_left
              ·simp only [Act.put,aA,aB,aC,i64_w,i32_w]
               rfl
              refine pure_ (i:=9) (N:=some 4) (v:=?_) (a':=?_) #[true,true,true,true,true,false,true,false,false,true,false,false] rfl rfl (any_of HT_.out (by kernel_rfl)) (fun _ _ _ h=>h) (Or.inl ⟨by rfl,?_⟩) ?_ ?_
              rotate_left
              ·intro w'
               go_simp
               with_reducible rfl
              rotate_left
              ·simp only [Act.put,aA,aB,aC,i64_w,i32_w]
               rfl
              refine take_ (i:=5) (N:=some 73) (v:=?_) (a':=?_) #[true,true,true,true,true,true,true,false,false,true,false,false] rfl rfl (take_ofW HT_.out HW_.out (by kernel_rfl)) (fun _ _ _ h=>h) (Or.inl ⟨by rfl,?_⟩) hHeld ?_ ?_
              rotate_left
              ·rintro w' ⟨s0,s1⟩
               go_simp
               with_reducible rfl
              rotate_left
              ·simp only [Act.put,aA,aB,aC,i64_w,i32_w]
               rfl
              refine pure_ (i:=7) (N:=some 75) (v:=?_) (a':=?_) #[true,true,true,true,true,true,true,true,false,true,false,false] rfl rfl (any_of HT_.out (by kernel_rfl)) (fun _ _ _ h=>h) (Or.inl ⟨by rfl,?_⟩) ?_ ?_
              rotate_left
              ·intro w'
               go_simp
               with_reducible rfl
              rotate_left
              ·simp only [Act.put,aA,aB,aC,i64_w,i32_w]
               rfl
              refine take_ (i:=8) (N:=some 76) (v:=?_) (a':=?_) #[true,true,true,true,true,true,true,true,true,true,false,false] rfl rfl (take_ofW HT_.out HW_.out (by kernel_rfl)) (fun _ _ _ h=>h) (Or.inl ⟨by rfl,?_⟩) hHeld ?_ ?_
              rotate_left
              ·rintro w' ⟨s0,s1⟩
               go_simp
               with_reducible rfl
              rotate_left
              ·simp only [Act.put,aA,aB,aC,i64_w,i32_w]
               rfl
              refine pure_ (i:=10) (N:=some 5) (v:=?_) (a':=?_) #[true,true,true,true,true,true,true,true,true,true,true,false] rfl rfl (any_of HT_.out (by kernel_rfl)) (fun _ _ _ h=>h) (Or.inl ⟨by rfl,?_⟩) ?_ ?_
              rotate_left
              ·intro w'
               go_simp
               with_reducible rfl
              rotate_left
              ·simp only [Act.put,aA,aB,aC,i64_w,i32_w]
               rfl
              refine pure_ (i:=11) (N:=some 6) (v:=?_) (a':=?_) #[true,true,true,true,true,true,true,true,true,true,true,true] rfl rfl (any_of HT_.out (by kernel_rfl)) (fun _ _ _ h=>h) (Or.inl ⟨by rfl,?_⟩) ?_ ?_
              rotate_left
              ·intro w'
               go_simp
               with_reducible rfl
              rotate_left
              ·simp only [Act.put,aA,aB,aC,i64_w,i32_w]
               rfl
              refine done_ (done_of HT_.out (by kernel_rfl)) ?_
              try go_wp2
              go_ret3
              exact ⟨_,by first|rfl|(simp [errW_none,errW_some] <;> rfl)|(simp [*,errW_none,errW_some] <;> rfl),by (with_reducible repeat (first|apply Kd.Qf|apply Kd.Qe|apply Kd.R_drew));exact HO_8.out,by repeat (first|(with_reducible first|exact HB.out|apply Qc|apply Qa|apply Qb)|exact HB.out)⟩
             ·rw [if_neg c43] at H;exact absurd H (by simp)
            ·rw [if_neg c42] at H;exact absurd H (by simp)
           ·rw [if_neg c41] at H;exact absurd H (by simp)
          ·rw [if_neg c40] at H;exact absurd H (by simp)
      ·rw [if_neg c12] at H;exact absurd H (by simp)
     ·rw [if_neg c11] at H;exact absurd H (by simp)

def slices_Max_int_int.l0:Nat→List Int→Int→Int→Option (Int)
  |0,_,_,_=>none
  |k+1,x0,x3,x4=>if x4<(x0.length:Int) then (if 0≤x4 then (slices_Max_int_int.l0 k x0 (mx x3 (rd x0 x4)) (wrap64 (x4+1))) else (none)) else (some x3)
def slices_Max_int_int.f (k:Nat) (l0:List Int):Option (Int):=if (l0.length:Int)<1 then (none) else (if 0<(l0.length:Int) then (slices_Max_int_int.l0 k l0 (rd l0 0) 1) else (none))
set_option maxHeartbeats 8000000 in
set_option maxRecDepth 100000 in
theorem slices_Max_int_int.calls (k:Nat) (A0:Option Addr) (c0:Nat) (l0:List Int) (r:Int) (w:World) (hr0:Kd.C (Kd.int .i64) w A0 l0.length l0) (hc0:l0.length≤c0) (h:slices_Max_int_int.f k l0=some r) :
    Calls Try.prog 148 #[.slice A0 l0.length c0] w fun e w'=>e= .returned (.int .i64 r)∧Below w.heap.size w w':=by
  have HR0:=aM hr0;have HC0:=aM hc0;clear hr0 hc0;have HB:=aM (Below.refl w.heap.size w);have H:(if (l0.length:Int)<1 then (none) else (if 0<(l0.length:Int) then (slices_Max_int_int.l0 k l0 (rd l0 0) 1) else (none)))=some r:=h;clear h;by_cases c2:(l0.length:Int)<1
  ·rw [if_pos c2] at H;exact absurd H (by simp)
  ·rw [if_neg c2] at H;have c2b0:decide ((l0.length:Int)<1)=false:=decide_eq_false c2;have c2b1:decide (l0.length<1)=false:=decide_eq_false (by omega);clear c2;by_cases c3:0<(l0.length:Int)
   ·rw [if_pos c3] at H;have c3b0:decide (0<(l0.length:Int))=true:=decide_eq_true c3;have c3b1:decide (0<l0.length)=true:=decide_eq_true (by omega);clear c3;have H':=aM H;clear H;have p101:0≤(0:Int):=(by omega);have q101:0<(l0.length:Int):=of_decide_eq_true (by first|(with_reducible assumption)|assumption);obtain ⟨ad101,e101,hx101_0⟩:=Kd.at_int HR0.out 0 p101 q101
    cases e101
    have qi101:(0<l0.length)=True:=eq_true (by omega);(try rw [show ((0:Int)).toNat=0 from rfl] at hx101_0);(try rw [Addr.add_zero'] at hx101_0);replace p101:=eq_true p101;replace q101:=eq_true q101;go_enter Try.func148,Try.ntmps148;go_wp2;go_loopg [3,4] k (fun kq v3 v4 w'=>∃ (x3_1:Int) (x4_1:Int),v3= .int .i64 x3_1∧v4= .int .i64 x4_1∧Aside0 (slices_Max_int_int.l0 kq l0 x3_1 x4_1=some r)∧Aside0 (kq≤k)∧Aside0 (Below w.heap.size w w'))
    case atStart=>exact ⟨(rd l0 0),(1),(by first|rfl|(simp;done)|(simp [*];done)),(by first|rfl|(simp;done)|(simp [*];done)),H',⟨Nat.le_refl _⟩,⟨by repeat (first|(with_reducible first|exact HB.out|apply Qc|apply Qa|apply Qb)|exact HB.out)⟩⟩
    case round=>
     clear H';(try clear c1);(try clear p1);(try clear q1);(try clear hx1);(try clear qi1);(try clear c2);(try clear c2b0);(try clear c2b1);(try clear p2);(try clear c3);(try clear c3b0);(try clear c3b1);(try clear hx101_0);(try clear p101);(try clear q101);obtain ⟨x3_1,x4_1,rfl,rfl,HA,HK1,HB⟩:=hrel
     cases gk with
     |zero=>exact absurd HA.out (by simp [slices_Max_int_int.l0])
     |succ k1=>
      have H:=HA.out;clear HA;simp only [slices_Max_int_int.l0] at H;by_cases c4:x4_1<(l0.length:Int)
      ·rw [if_pos c4] at H;have c4b0:decide (x4_1<(l0.length:Int))=true:=decide_eq_true c4;clear c4;by_cases c5:0≤x4_1
       ·rw [if_pos c5] at H;have c5b0:decide (0≤x4_1)=true:=decide_eq_true c5;clear c5;obtain ⟨ji6,hji6⟩:∃ j_:Int,(mx x3_1 (rd l0 x4_1))=j_:=⟨_,rfl⟩;replace H:(slices_Max_int_int.l0 k1 l0 ji6 (wrap64 (x4_1+1)))=some r:=by first|(rw [hji6] at H;exact H)|(simp only [hji6] at H ⊢;exact H)
        have hji6_:(if x3_1<(rd l0 x4_1) then (rd l0 x4_1) else x3_1)=ji6:=hji6;have H':=aM H;clear H;have p102:0≤(x4_1:Int):=of_decide_eq_true (by first|(with_reducible assumption)|assumption);have q102:x4_1<(l0.length:Int):=of_decide_eq_true (by first|(with_reducible assumption)|assumption);obtain ⟨ad102,e102,hx102_0⟩:=Kd.at_int HR0.out x4_1 p102 q102;obtain rfl:ad101=ad102:=(by injection e102);replace hx102_0:=(HB.out.cell (aI w _ hx102_0)).trans hx102_0;replace p102:=eq_true p102;replace q102:=eq_true q102;go_wp2;go_roundg k1
        case measure=>have:=HK1.out;omega
        case rel=>exact ⟨(ji6),(wrap64 (x4_1+1)),(by first|rfl|(simp;done)|(simp only [←hji6] <;> (first|rfl|simp))|(simp [*];done)),(by first|rfl|(simp;done)|(simp [*];done)),H',⟨by have:=HK1.out;omega⟩,⟨by repeat (first|(with_reducible first|exact HB.out|apply Qc|apply Qa|apply Qb)|exact HB.out)⟩⟩
       ·rw [if_neg c5] at H;exact absurd H (by simp)
      ·rw [if_neg c4] at H;have c4b0:decide (x4_1<(l0.length:Int))=false:=decide_eq_false c4;clear c4;obtain rfl:=Option.some.inj H;go_wp2
       go_ret
       exact ⟨by first|rfl|(simp [errW_none,errW_some] <;> rfl)|(simp [*,errW_none,errW_some] <;> rfl),by repeat (first|(with_reducible first|exact HB.out|apply Qc|apply Qa|apply Qb)|exact HB.out)⟩
   ·rw [if_neg c3] at H;exact absurd H (by simp)

def impl_BoundOf.l0:Nat→Int→List (S53)→Int→Int→Option (Int×Bool)
  |0,_,_,_,_=>none
  |k+1,x6,x13,x14,x15=>if x15<x14 then (if 0≤x15 then (if x15<(x13.length:Int) then ((some (([0]:List Int):List Int)).bind fun y104=>(if y104.length+((rd_T53 x13 x15).f0).length<17592186044416 then ((slices_Max_int_int.f k (y104 ++ ((rd_T53 x13 x15).f0))).bind fun t110=>(impl_BoundOf.l0 k (wrap64 (x6+t110)) x13 x14 (wrap64 (x15+1)))) else (none))) else (none)) else (none)) else (some (x6,true))
def impl_BoundOf.f (k:Nat) (l0:List (S53)) (a1:Int):Option (Int×Bool):=(impl_isOffered.f k l0 a1).bind fun t101=>(if t101=true then (impl_BoundOf.l0 k 0 l0 (l0.length:Int) 0) else (some (0,false)))
set_option maxHeartbeats 8000000 in
set_option maxRecDepth 100000 in
theorem impl_BoundOf.calls (k:Nat) (A0:Option Addr) (c0:Nat) (l0:List (S53)) (a1:Int) (r1:Int) (r2:Bool) (w:World) (hr0:Kd.C k53 w A0 l0.length l0) (hc0:l0.length≤c0) (h:impl_BoundOf.f k l0 a1=some (r1,r2)) :
    Calls Try.prog 46 #[.slice A0 l0.length c0,.int .i64 a1] w fun e w'=>e= .returned (.tuple #[.int .i64 r1,.bool r2])∧Below w.heap.size w w':=by
  have hu53:=Try.underlying53;have HR0:=aM hr0;have HC0:=aM hc0;clear hr0 hc0;have HB:=aM (Below.refl w.heap.size w);have H:((impl_isOffered.f k l0 a1).bind fun t101=>(if t101=true then (impl_BoundOf.l0 k 0 l0 (l0.length:Int) 0) else (some (0,false))))=some (r1,r2):=h;clear h;replace H:=Option.bind_eq_some_iff.mp H;obtain ⟨t101,A30,H⟩:=H;replace H:(if t101=true then (impl_BoundOf.l0 k 0 l0 (l0.length:Int) 0) else (some (0,false)))=some (r1,r2):=H;have A3:=aM A30;clear A30;by_cases c4:t101=true
  ·subst c4;have H1:(impl_BoundOf.l0 k 0 l0 (l0.length:Int) 0)=some (r1,r2):=by rw [if_pos rfl] at H;exact H
   clear H;have H:=H1;clear H1;have H':=aM H;clear H;go_enter Try.func46,Try.ntmps46;go_wp2_with (first|((with_reducible refine Qt (f:=140) rfl ?_);refine goesL_ (some 11) rfl rfl Try.func140 (by kernel_rfl) rfl #[.slice A0 l0.length c0,.int .i64 a1] rfl (by (try simp only [aD,aE,aF]);first|done|rfl|(simp only [aG,aH];rfl)) ?_;(with_reducible refine (impl_isOffered.calls k _ _ l0 a1 true _ ?side1 ?side2 A3.out).mono ?_);(case side1=>repeat (first|exact HR0.out|(with_reducible refine Kd.Ql ?_ _)|(with_reducible refine Kd.Qm ?_ _)|(with_reducible refine Kd.C_drew ?_)));(case side2=>exact HC0.out);rintro e w5 ⟨rfl,hb⟩;refine ⟨_,rfl,?_⟩;have n0_:=aM (Qg (by repeat (first|(with_reducible first|exact HB.out|apply Qc|apply Qa|apply Qb)|exact HB.out)) hb);clear HB;have HB:=n0_;clear n0_;(try clear hb);(try clear hb2);(try clear hk);(try clear hi)))
   go_loopg [6,15] k (fun kq v6 v15 w'=>∃ (x6_1:Int) (x15_1:Int),v6= .int .i64 x6_1∧v15= .int .i64 x15_1∧Aside0 (impl_BoundOf.l0 kq x6_1 l0 (l0.length:Int) x15_1=some (r1,r2))∧Aside0 (kq≤k)∧Aside0 (Below w.heap.size w w'))
   case atStart=>exact ⟨(0),(0),(by first|rfl|(simp;done)|(simp [*];done)),(by first|rfl|(simp;done)|(simp [*];done)),H',⟨Nat.le_refl _⟩,⟨by repeat (first|(with_reducible first|exact HB.out|apply Qc|apply Qa|apply Qb)|exact HB.out)⟩⟩
   case round=>
    clear H';(try clear c1);(try clear p2);(try clear c4);obtain ⟨x6_1,x15_1,rfl,rfl,HA,HK1,HB⟩:=hrel
    cases gk with
    |zero=>exact absurd HA.out (by simp [impl_BoundOf.l0])
    |succ k1=>
     have H:=HA.out;clear HA;simp only [impl_BoundOf.l0] at H;by_cases c6:x15_1<(l0.length:Int)
     ·rw [if_pos c6] at H;have c6b0:decide (x15_1<(l0.length:Int))=true:=decide_eq_true c6;clear c6;by_cases c7:0≤x15_1
      ·rw [if_pos c7] at H;have c7b0:decide (0≤x15_1)=true:=decide_eq_true c7;clear c7;by_cases c8:x15_1<(l0.length:Int)
       ·rw [if_pos c8] at H;have c8b0:decide (x15_1<(l0.length:Int))=true:=decide_eq_true c8;clear c8;obtain ⟨y104,hy104⟩:∃ y_:List Int,y_=(([0]:List Int)):=⟨_,rfl⟩;replace H:(if y104.length+((rd_T53 l0 x15_1).f0).length<17592186044416 then ((slices_Max_int_int.f k1 (y104 ++ ((rd_T53 l0 x15_1).f0))).bind fun t110=>(impl_BoundOf.l0 k1 (wrap64 (x6_1+t110)) l0 (l0.length:Int) (wrap64 (x15_1+1)))) else (none))=some (r1,r2):=by first|(rw [hy104];with_reducible exact H)|(have H2_:=(Option.bind_some _ _).symm.trans H;rw [hy104];with_reducible exact H2_)|(have H2_:=(Option.bind_some _ _).symm.trans H;with_reducible exact H2_)|with_reducible exact H|(rw [hy104];exact H)|exact H
        have Ny104:=aM hy104;clear hy104;by_cases c9:y104.length+((rd_T53 l0 x15_1).f0).length<17592186044416
        ·rw [if_pos c9] at H;have LMc9:=aM c9;clear c9;obtain ⟨y107,hy107⟩:∃ y_:List Int,y_=(y104 ++ ((rd_T53 l0 x15_1).f0)):=⟨_,rfl⟩;replace H:((slices_Max_int_int.f k1 y107).bind fun t110=>(impl_BoundOf.l0 k1 (wrap64 (x6_1+t110)) l0 (l0.length:Int) (wrap64 (x15_1+1))))=some (r1,r2):=by first|(rw [hy107];with_reducible exact H)|(have H2_:=(Option.bind_some _ _).symm.trans H;rw [hy107];with_reducible exact H2_)|(have H2_:=(Option.bind_some _ _).symm.trans H;with_reducible exact H2_)|with_reducible exact H|(rw [hy107];exact H)|exact H
         have Ny107:=aM hy107;clear hy107;replace H:=Option.bind_eq_some_iff.mp H;obtain ⟨t110,A100,H⟩:=H;replace H:(impl_BoundOf.l0 k1 (wrap64 (x6_1+t110)) l0 (l0.length:Int) (wrap64 (x15_1+1)))=some (r1,r2):=H;have A10:=aM A100;clear A100;have H':=aM H;clear H;have p102:0≤(x15_1:Int):=of_decide_eq_true (by first|(with_reducible assumption)|assumption);have q102:x15_1<(l0.length:Int):=of_decide_eq_true (by first|(with_reducible assumption)|assumption);obtain ⟨ad102,A102_0,c102_0,e102,hx102_0,hl102_0,hi102_0⟩:=at_T53 HR0.out x15_1 p102 q102
         cases e102
         replace hx102_0:=(HB.out.cell (aI w _ hx102_0)).trans hx102_0;have HR102_0:=aM hi102_0;have HC102_0:=aM hl102_0;clear hi102_0 hl102_0;replace p102:=eq_true p102;replace q102:=eq_true q102;go_wp2_with (first|((with_reducible refine gate_dst (N:=8) rfl ?_);refine box_event ?hg (N:=8) ?hd (cs:=#[.slice none 0 0]) (t:=53) ?hr ?_;(case hd=>rfl);(case hg=>rfl);(case hr=>first|(go_simp;done)|(go_simp;rfl));intro gb103 hg w11 hbox hb;have n0_:=aM (Qg (by repeat (first|(with_reducible first|exact HB.out|apply Qc|apply Qa|apply Qb)|exact HB.out)) hb);have n1_:=aM (hbox);have n2_:=aM ((by rw [hg];exact (Qk (by repeat (first|(with_reducible first|exact HB.out|apply Qc|apply Qa|apply Qb)|exact HB.out))):w.heap.size≤gb103));have n3_:=aM ((by rw [hg];exact (Qk (by repeat (first|(with_reducible first|exact HB.out|apply Qc|apply Qa|apply Qb)|exact HB.out))):w.heap.size≤gb103));clear HB;have HB:=n0_;have BK103:=n1_;have GW103:=n2_;have GE103:=n3_;clear n0_ n1_ n2_ n3_;clear hb hbox hg;have hcz12_0:w11.cell? ⟨gb103,0,none⟩=some (.slice none 0 0):=(Qu BK103.out 0).trans rfl;have hfz12_0:=Qs BK103.out 0)|((with_reducible refine gate_dst (N:=20) rfl ?_);refine Kd.R_lit (Kd.int .i64) _ 3 ?hg (N:=20) ?hd (xs:=([0]:List Int)) (inner:=[.int .i64 0]) (ok:=fun _=>True) (okp:=fun _=>True) ?hr ?hp (fun _ hk=>hk) trivial (Below.refl _ _) (Nat.le_refl _) (by simp) ?_;(case hd=>rfl);(case hg=>rfl);(case hr=>first|(go_simp;done)|(go_simp;rfl));(case hp=>exact (Reps.one (show Kd.M (Kd.int .i64) _ _ _ 0 [.int .i64 0] from rfl) (Reps.none _ _)));intro v105 w13 ho14 hb hg_ hnew_;clear hg_ hnew_;(first|rw [←Ny104.out] at ho14|(simp only [Int.reduceToNat] at ho14;rw [←Ny104.out] at ho14));have n0_:=aM (Kd.R_lower ho14 (Qk (by repeat (first|(with_reducible first|exact HB.out|apply Qc|apply Qa|apply Qb|refine Qd ?_ GE103.out)|exact HB.out))));have n1_:=aM (Qz (g:=gb103) (o:= .cells #[.slice A102_0 ((rd_T53 l0 x15_1).f0).length c102_0] 53 (0,0)) (by (with_reducible repeat (first|apply Qi|apply Qj|apply Qh));refine blk_put (cs:=#[.slice none 0 0]) ?_ 0 _ rfl;(with_reducible repeat (first|apply Qi|apply Qj|apply Qh));exact BK103.out) hb);have n2_:=aM (Qg (by repeat (first|(with_reducible first|exact HB.out|apply Qc|apply Qa|apply Qb|refine Qd ?_ GE103.out)|exact HB.out)) hb);clear BK103;clear HB;have HO106:=n0_;have BK103:=n1_;have HB:=n2_;clear n0_ n1_ n2_;clear hb ho14;have hcz15_0:w13.cell? ⟨gb103,0,none⟩=some (.slice A102_0 ((rd_T53 l0 x15_1).f0).length c102_0):=(Qu BK103.out 0).trans rfl;have hfz15_0:=Qs BK103.out 0)|((with_reducible refine gate_builtin (b:= .append) (xs:=#[.tmp 20,.tmp 22]) rfl ?_);at_builtin;refine Kd.R_append_rows (Kd.int .i64) (w0:=w) w.heap.size rfl (.tmp 20) (.tmp 22) 23 3 (.int .i64 0) 8 rfl Try.underlying23 info3 rfl (by decide) (by omega) v105 y104 ((rd_T53 l0 x15_1).f0) _ _ _ (fun _=>True) (fun _=>False) rfl rfl ?aO ?aR (fun _ _ h=>h) (fun _ h=>h.elim) ?aF ?aB ?aS ?aL ?_;(case aR=>repeat (first|exact (Kd.C_below HR102_0.out HB.out)|(with_reducible refine Kd.Ql ?_ _)|(with_reducible refine Kd.Qm ?_ _)|(with_reducible refine Kd.C_drew ?_)));(case aB=>exact (by repeat (first|(with_reducible first|exact HB.out|apply Qc|apply Qa|apply Qb|refine Qd ?_ GE103.out)|exact HB.out)));(case aF=>exact (fun _ _=>trivial));(case aO=>exact (by (with_reducible repeat (first|apply Kd.Qf|apply Kd.Qe|apply Kd.R_drew));exact HO106.out));(case aS=>exact (Qk (by repeat (first|(with_reducible first|exact HB.out|apply Qc|apply Qa|apply Qb|refine Qd ?_ GE103.out)|exact HB.out))));(case aL=>have:=LMc9.out;omega);intro v108 w16 ho hb hg hat;rw [←Ny107.out] at ho;have n0_:=aM (blk_grown (g:=gb103) (o:= .cells #[.slice A102_0 ((rd_T53 l0 x15_1).f0).length c102_0] 53 (0,0)) (by (with_reducible repeat (first|apply Qi|apply Qj|apply Qh));exact BK103.out) hg (Kd.R_ne HO106.out BK103.out (by decide)));have n1_:=aM (hb);have n2_:=aM (ho);clear BK103;clear HB;clear HO106;have BK103:=n0_;have HB:=n1_;have HO109:=n2_;clear n0_ n1_ n2_;clear ho hb hg hat;obtain ⟨Ao17,co17,eo17⟩:=Kd.R_slice HO109.out;subst eo17)|((with_reducible refine Qt (f:=148) rfl ?_);refine goesL_ (some 24) rfl rfl Try.func148 (by kernel_rfl) rfl #[.slice Ao17 y107.length co17] rfl (by (try simp only [aD,aE,aF]);first|done|rfl|(simp only [aG,aH];rfl)) ?_;(with_reducible refine (slices_Max_int_int.calls k1 _ _ y107 t110 _ ?side1 ?side2 A10.out).mono ?_);(case side1=>repeat (first|exact (Kd.Qn HO109.out).2.2|(with_reducible refine Kd.Ql ?_ _)|(with_reducible refine Kd.Qm ?_ _)|(with_reducible refine Kd.C_drew ?_)));(case side2=>exact (Kd.Qn HO109.out).2.1);rintro e w18 ⟨rfl,hb⟩;refine ⟨_,rfl,?_⟩;have n0_:=aM (Kd.Qr (by (with_reducible repeat (first|apply Kd.Qf|apply Kd.Qe|apply Kd.R_drew));exact HO109.out) hb);have n1_:=aM (Qz (g:=gb103) (o:= .cells #[.slice A102_0 ((rd_T53 l0 x15_1).f0).length c102_0] 53 (0,0)) (by (with_reducible repeat (first|apply Qi|apply Qj|apply Qh));exact BK103.out) hb);have n2_:=aM (Qg (by repeat (first|(with_reducible first|exact HB.out|apply Qc|apply Qa|apply Qb|refine Qd ?_ GE103.out)|exact HB.out)) hb);clear HO109;clear BK103;clear HB;have HO109:=n0_;have BK103:=n1_;have HB:=n2_;clear n0_ n1_ n2_;(try clear hb);(try clear hb2);(try clear hk);(try clear hi)))
         go_roundg k1
         case measure=>have:=HK1.out;omega
         case rel=>exact ⟨(wrap64 (x6_1+t110)),(wrap64 (x15_1+1)),(by first|rfl|(simp;done)|(simp [*];done)),(by first|rfl|(simp;done)|(simp [*];done)),H',⟨by have:=HK1.out;omega⟩,⟨by repeat (first|(with_reducible first|exact HB.out|apply Qc|apply Qa|apply Qb|refine Qd ?_ GE103.out)|exact HB.out)⟩⟩
        ·rw [if_neg c9] at H;exact absurd H (by simp)
       ·rw [if_neg c8] at H;exact absurd H (by simp)
      ·rw [if_neg c7] at H;exact absurd H (by simp)
     ·rw [if_neg c6] at H;have c6b0:decide (x15_1<(l0.length:Int))=false:=decide_eq_false c6;clear c6;simp only [Option.some.injEq,Prod.mk.injEq] at H;obtain ⟨rfl,rfl⟩:=H;go_wp2
      go_ret2
      exact ⟨by first|rfl|(simp [errW_none,errW_some] <;> rfl)|(simp [*,errW_none,errW_some] <;> rfl),by repeat (first|(with_reducible first|exact HB.out|apply Qc|apply Qa|apply Qb)|exact HB.out)⟩
  ·replace c4:=Bool.eq_false_iff.mpr c4;subst c4;have H1:(some (0,false))=some (r1,r2):=by rw [if_neg (show ¬ (false=true) by decide)] at H;exact H
   clear H;have H:=H1;clear H1;simp only [Option.some.injEq,Prod.mk.injEq] at H;obtain ⟨rfl,rfl⟩:=H;go_enter Try.func46,Try.ntmps46;go_wp2_with (first|((with_reducible refine Qt (f:=140) rfl ?_);refine goesL_ (some 11) rfl rfl Try.func140 (by kernel_rfl) rfl #[.slice A0 l0.length c0,.int .i64 a1] rfl (by (try simp only [aD,aE,aF]);first|done|rfl|(simp only [aG,aH];rfl)) ?_;(with_reducible refine (impl_isOffered.calls k _ _ l0 a1 false _ ?side1 ?side2 A3.out).mono ?_);(case side1=>repeat (first|exact HR0.out|(with_reducible refine Kd.Ql ?_ _)|(with_reducible refine Kd.Qm ?_ _)|(with_reducible refine Kd.C_drew ?_)));(case side2=>exact HC0.out);rintro e w19 ⟨rfl,hb⟩;refine ⟨_,rfl,?_⟩;have n0_:=aM (Qg (by repeat (first|(with_reducible first|exact HB.out|apply Qc|apply Qa|apply Qb)|exact HB.out)) hb);clear HB;have HB:=n0_;clear n0_;(try clear hb);(try clear hb2);(try clear hk);(try clear hi)))
   go_ret2
   exact ⟨by first|rfl|(simp [errW_none,errW_some] <;> rfl)|(simp [*,errW_none,errW_some] <;> rfl),by repeat (first|(with_reducible first|exact HB.out|apply Qc|apply Qa|apply Qb)|exact HB.out)⟩

mutual
def spec_BoundOf.j0:Nat→List (S53)→Bool→Option (Int×Bool)
  |0,_,_=>none
  |k+1,x0,x19=>if x19=true then (some (0,false)) else (spec_BoundOf.l0 k 0 x0 (x0.length:Int) 0)
def spec_BoundOf.l0:Nat→Int→List (S53)→Int→Int→Option (Int×Bool)
  |0,_,_,_,_=>none
  |k+1,x6,x20,x21,x22=>if x22<x21 then (if 0≤x22 then (if x22<(x20.length:Int) then (spec_BoundOf.l1 k x6 0 x20 x21 x22 ((rd_T53 x20 x22).f0) (((rd_T53 x20 x22).f0).length:Int) 0) else (none)) else (none)) else (some (x6,true))
def spec_BoundOf.l1:Nat→Int→Int→List (S53)→Int→Int→List Int→Int→Int→Option (Int×Bool)
  |0,_,_,_,_,_,_,_,_=>none
  |k+1,x6,x9,x20,x21,x22,x27,x28,x29=>if x29<x28 then (if 0≤x29 then (if x29<(x27.length:Int) then (if (rd x27 x29) > x9 then (spec_BoundOf.l1 k x6 (rd x27 x29) x20 x21 x22 x27 x28 (wrap64 (x29+1))) else (spec_BoundOf.l1 k x6 x9 x20 x21 x22 x27 x28 (wrap64 (x29+1)))) else (none)) else (none)) else (spec_BoundOf.l0 k (wrap64 (x6+x9)) x20 x21 (wrap64 (x22+1)))
end
def spec_BoundOf.f (k:Nat) (l0:List (S53)) (a1:Int):Option (Int×Bool):=(spec_GoodOffers.f k l0).bind fun t101=>(if t101=true then ((spec_l6Places.f a1).bind fun t102=>(spec_BoundOf.j0 k l0 (!t102))) else (spec_BoundOf.j0 k l0 true))
set_option maxHeartbeats 8000000 in
set_option maxRecDepth 100000 in
theorem spec_BoundOf.calls (k:Nat) (A0:Option Addr) (c0:Nat) (l0:List (S53)) (a1:Int) (r1:Int) (r2:Bool) (w:World) (hr0:Kd.C k53 w A0 l0.length l0) (hc0:l0.length≤c0) (h:spec_BoundOf.f k l0 a1=some (r1,r2)) :
    Calls Try.prog 47 #[.slice A0 l0.length c0,.int .i64 a1] w fun e w'=>e= .returned (.tuple #[.int .i64 r1,.bool r2])∧Below w.heap.size w w':=by
  have hu53:=Try.underlying53;have HR0:=aM hr0;have HC0:=aM hc0;clear hr0 hc0;have HB:=aM (Below.refl w.heap.size w);have H:((spec_GoodOffers.f k l0).bind fun t101=>(if t101=true then ((spec_l6Places.f a1).bind fun t102=>(spec_BoundOf.j0 k l0 (!t102))) else (spec_BoundOf.j0 k l0 true)))=some (r1,r2):=h;clear h;have HC3:=aM H;clear H;go_enter Try.func47,Try.ntmps47
  go_upto_region 1 with (fail)
  go_cut [19] (fun v19 wc=>∃ (kq:Nat) (x19_2:Bool),v19= .bool x19_2∧Aside0 (spec_BoundOf.j0 kq l0 x19_2=some (r1,r2))∧Aside0 (kq≤k)∧Aside0 (Below w.heap.size w wc))
  case first=>
   have H:=HC3.out;clear HC3;replace H:=Option.bind_eq_some_iff.mp H;obtain ⟨t101,A40,H⟩:=H;replace H:(if t101=true then ((spec_l6Places.f a1).bind fun t102=>(spec_BoundOf.j0 k l0 (!t102))) else (spec_BoundOf.j0 k l0 true))=some (r1,r2):=H;have A4:=aM A40;clear A40;by_cases c5:t101=true
   ·subst c5;have H1:((spec_l6Places.f a1).bind fun t102=>(spec_BoundOf.j0 k l0 (!t102)))=some (r1,r2):=by rw [if_pos rfl] at H;exact H
    clear H;have H:=H1;clear H1;replace H:=Option.bind_eq_some_iff.mp H;obtain ⟨t102,A60,H⟩:=H;replace H:(spec_BoundOf.j0 k l0 (!t102))=some (r1,r2):=H;have A6:=aM A60;clear A60;have H':=aM H;clear H;go_wp2_with (first|((with_reducible refine Qt (f:=49) rfl ?_);refine goesL_ (some 13) rfl rfl Try.func49 (by kernel_rfl) rfl #[.slice A0 l0.length c0] rfl (by (try simp only [aD,aE,aF]);first|done|rfl|(simp only [aG,aH];rfl)) ?_;(with_reducible refine (spec_GoodOffers.calls k _ _ l0 true _ ?side1 ?side2 A4.out).mono ?_);(case side1=>repeat (first|exact (Kd.C_below HR0.out HB.out)|(with_reducible refine Kd.Ql ?_ _)|(with_reducible refine Kd.Qm ?_ _)|(with_reducible refine Kd.C_drew ?_)));(case side2=>exact HC0.out);rintro e w7 ⟨rfl,hb⟩;refine ⟨_,rfl,?_⟩;have n0_:=aM (Qg (by repeat (first|(with_reducible first|exact HB.out|apply Qc|apply Qa|apply Qb)|exact HB.out)) hb);clear HB;have HB:=n0_;clear n0_;(try clear hb);(try clear hb2);(try clear hk);(try clear hi))|(go_at_call 142;(with_reducible refine (spec_l6Places.calls a1 t102 _ A6.out).mono ?_);rintro e w' ⟨rfl,⟨nd,rfl⟩⟩))
    go_meet
    case rel=>exact ⟨_,(!t102),(by first|rfl|(simp;done)|(simp [*];done)),H',⟨by first|omega|exact Nat.le_refl _⟩,⟨by repeat (first|(with_reducible first|exact HB.out|apply Qc|apply Qa|apply Qb)|exact HB.out)⟩⟩
   ·replace c5:=Bool.eq_false_iff.mpr c5;subst c5;have H1:(spec_BoundOf.j0 k l0 true)=some (r1,r2):=by rw [if_neg (show ¬ (false=true) by decide)] at H;exact H
    clear H;have H:=H1;clear H1;have H':=aM H;clear H;go_wp2_with (first|((with_reducible refine Qt (f:=49) rfl ?_);refine goesL_ (some 13) rfl rfl Try.func49 (by kernel_rfl) rfl #[.slice A0 l0.length c0] rfl (by (try simp only [aD,aE,aF]);first|done|rfl|(simp only [aG,aH];rfl)) ?_;(with_reducible refine (spec_GoodOffers.calls k _ _ l0 false _ ?side1 ?side2 A4.out).mono ?_);(case side1=>repeat (first|exact (Kd.C_below HR0.out HB.out)|(with_reducible refine Kd.Ql ?_ _)|(with_reducible refine Kd.Qm ?_ _)|(with_reducible refine Kd.C_drew ?_)));(case side2=>exact HC0.out);rintro e w8 ⟨rfl,hb⟩;refine ⟨_,rfl,?_⟩;have n0_:=aM (Qg (by repeat (first|(with_reducible first|exact HB.out|apply Qc|apply Qa|apply Qb)|exact HB.out)) hb);clear HB;have HB:=n0_;clear n0_;(try clear hb);(try clear hb2);(try clear hk);(try clear hi)))
    go_meet
    case rel=>exact ⟨_,(true),(by first|rfl|(simp;done)|(simp [*];done)),H',⟨by first|omega|exact Nat.le_refl _⟩,⟨by repeat (first|(with_reducible first|exact HB.out|apply Qc|apply Qa|apply Qb)|exact HB.out)⟩⟩
  case rest=>
   clear HC3;(try clear p2);(try clear c4);(try clear c5);obtain ⟨kq,x19_2,rfl,HA,HJ2,HB⟩:=hcut
   cases kq with
   |zero=>exact absurd HA.out (by simp [spec_BoundOf.j0])
   |succ kj2=>
    have H:=HA.out;clear HA;simp only [spec_BoundOf.j0] at H;by_cases c9:x19_2=true
    ·subst c9;have H1:(some (0,false))=some (r1,r2):=by rw [if_pos rfl] at H;exact H
     clear H;have H:=H1;clear H1;simp only [Option.some.injEq,Prod.mk.injEq] at H;obtain ⟨rfl,rfl⟩:=H;go_wp2
     go_ret2
     exact ⟨by first|rfl|(simp [errW_none,errW_some] <;> rfl)|(simp [*,errW_none,errW_some] <;> rfl),by repeat (first|(with_reducible first|exact HB.out|apply Qc|apply Qa|apply Qb)|exact HB.out)⟩
    ·replace c9:=Bool.eq_false_iff.mpr c9;subst c9;have H1:(spec_BoundOf.l0 kj2 0 l0 (l0.length:Int) 0)=some (r1,r2):=by rw [if_neg (show ¬ (false=true) by decide)] at H;exact H
     clear H;have H:=H1;clear H1;have H':=aM H;clear H;go_wp2;go_loopg [6,22] kj2 (fun kq v6 v22 w'=>∃ (x6_2:Int) (x22_2:Int),v6= .int .i64 x6_2∧v22= .int .i64 x22_2∧Aside0 (spec_BoundOf.l0 kq x6_2 l0 (l0.length:Int) x22_2=some (r1,r2))∧Aside0 (kq≤kj2)∧Aside0 (Below w.heap.size w w'))
     case atStart=>exact ⟨(0),(0),(by first|rfl|(simp;done)|(simp [*];done)),(by first|rfl|(simp;done)|(simp [*];done)),H',⟨Nat.le_refl _⟩,⟨by repeat (first|(with_reducible first|exact HB.out|apply Qc|apply Qa|apply Qb)|exact HB.out)⟩⟩
     case round=>
      clear H';(try clear p2);(try clear c4);(try clear c5);(try clear c9);(try clear p2);obtain ⟨x6_2,x22_2,rfl,rfl,HA,HK2,HB⟩:=hrel
      cases gk with
      |zero=>exact absurd HA.out (by simp [spec_BoundOf.l0])
      |succ k2=>
       have H:=HA.out;clear HA;simp only [spec_BoundOf.l0] at H;by_cases c10:x22_2<(l0.length:Int)
       ·rw [if_pos c10] at H;have c10b0:decide (x22_2<(l0.length:Int))=true:=decide_eq_true c10;clear c10;by_cases c11:0≤x22_2
        ·rw [if_pos c11] at H;have c11b0:decide (0≤x22_2)=true:=decide_eq_true c11;clear c11;by_cases c12:x22_2<(l0.length:Int)
         ·rw [if_pos c12] at H;have c12b0:decide (x22_2<(l0.length:Int))=true:=decide_eq_true c12;clear c12;have H':=aM H;clear H;have p103:0≤(x22_2:Int):=of_decide_eq_true (by first|(with_reducible assumption)|assumption);have q103:x22_2<(l0.length:Int):=of_decide_eq_true (by first|(with_reducible assumption)|assumption);obtain ⟨ad103,A103_0,c103_0,e103,hx103_0,hl103_0,hi103_0⟩:=at_T53 HR0.out x22_2 p103 q103
          cases e103
          replace hx103_0:=(HB.out.cell (aI w _ hx103_0)).trans hx103_0;have HR103_0:=aM hi103_0;have HC103_0:=aM hl103_0;clear hi103_0 hl103_0;replace p103:=eq_true p103;replace q103:=eq_true q103;go_wp2_with (first|((with_reducible refine gate_dst (N:=8) rfl ?_);refine box_event ?hg (N:=8) ?hd (cs:=#[.slice none 0 0]) (t:=53) ?hr ?_;(case hd=>rfl);(case hg=>rfl);(case hr=>first|(go_simp;done)|(go_simp;rfl));intro gb104 hg w13 hbox hb;have n0_:=aM (Qg (by repeat (first|(with_reducible first|exact HB.out|apply Qc|apply Qa|apply Qb)|exact HB.out)) hb);have n1_:=aM (hbox);have n2_:=aM ((by rw [hg];exact (Qk (by repeat (first|(with_reducible first|exact HB.out|apply Qc|apply Qa|apply Qb)|exact HB.out))):w.heap.size≤gb104));have n3_:=aM ((by rw [hg];exact (Qk (by repeat (first|(with_reducible first|exact HB.out|apply Qc|apply Qa|apply Qb)|exact HB.out))):w.heap.size≤gb104));clear HB;have HB:=n0_;have BK104:=n1_;have GW104:=n2_;have GE104:=n3_;clear n0_ n1_ n2_ n3_;clear hb hbox hg;have hcz14_0:w13.cell? ⟨gb104,0,none⟩=some (.slice none 0 0):=(Qu BK104.out 0).trans rfl;have hfz14_0:=Qs BK104.out 0))
          go_loopg [9,29] k2 (fun kq v9 v29 w'=>∃ (x9_3:Int) (x29_3:Int),v9= .int .i64 x9_3∧v29= .int .i64 x29_3∧Aside0 (spec_BoundOf.l1 kq x6_2 x9_3 l0 (l0.length:Int) x22_2 ((rd_T53 l0 x22_2).f0) (((rd_T53 l0 x22_2).f0).length:Int) x29_3=some (r1,r2))∧Aside0 (kq≤k2)∧Aside0 (w'.heap[gb104]? = some (.cells #[(.slice A103_0 ((rd_T53 l0 x22_2).f0).length c103_0)] 53 (0,0)))∧Aside0 (Below w.heap.size w w'))
          case atStart=>exact ⟨(0),(0),(by first|rfl|(simp;done)|(simp [*];done)),(by first|rfl|(simp;done)|(simp [*];done)),H',⟨Nat.le_refl _⟩,⟨by (with_reducible repeat (first|apply Qi|apply Qj|apply Qh));refine blk_put (cs:=#[.slice none 0 0]) ?_ 0 _ rfl;(with_reducible repeat (first|apply Qi|apply Qj|apply Qh));exact BK104.out⟩,⟨by repeat (first|(with_reducible first|exact HB.out|apply Qc|apply Qa|apply Qb|refine Qd ?_ GE104.out)|exact HB.out)⟩⟩
          case round=>
           clear H';(try clear c1);(try clear p1);(try clear q1);(try clear hx1);(try clear p2);(try clear c4);(try clear c5);(try clear c9);(try clear c10);(try clear c10b0);(try clear p10);(try clear q10);(try clear hx10);(try clear c11);(try clear c11b0);(try clear c12);(try clear c12b0);(try clear hcz14_0);(try clear hfz14_0);(try clear hx103_0);(try clear p103);(try clear p2);(try clear q103);obtain ⟨x9_3,x29_3,rfl,rfl,HA,HK3,BK104,HB⟩:=hrel
           cases gk with
           |zero=>exact absurd HA.out (by simp [spec_BoundOf.l1])
           |succ k3=>
            have H:=HA.out;clear HA;simp only [spec_BoundOf.l1] at H;by_cases c15:x29_3<(((rd_T53 l0 x22_2).f0).length:Int)
            ·rw [if_pos c15] at H;have c15b0:decide (x29_3<(((rd_T53 l0 x22_2).f0).length:Int))=true:=decide_eq_true c15;clear c15;by_cases c16:0≤x29_3
             ·rw [if_pos c16] at H;have c16b0:decide (0≤x29_3)=true:=decide_eq_true c16;clear c16;by_cases c17:x29_3<(((rd_T53 l0 x22_2).f0).length:Int)
              ·rw [if_pos c17] at H;have c17b0:decide (x29_3<(((rd_T53 l0 x22_2).f0).length:Int))=true:=decide_eq_true c17;clear c17;by_cases c18:(rd ((rd_T53 l0 x22_2).f0) x29_3) > x9_3
               ·rw [if_pos c18] at H;have c18b0:decide (x9_3<(rd ((rd_T53 l0 x22_2).f0) x29_3))=true:=decide_eq_true c18;clear c18;have H':=aM H;clear H;have p105:0≤(x29_3:Int):=of_decide_eq_true (by first|(with_reducible assumption)|assumption);have q105:x29_3<(((rd_T53 l0 x22_2).f0).length:Int):=of_decide_eq_true (by first|(with_reducible assumption)|assumption);obtain ⟨ad105,e105,hx105_0⟩:=Kd.at_int HR103_0.out x29_3 p105 q105
                cases e105
                replace hx105_0:=(HB.out.cell (aI w _ hx105_0)).trans hx105_0;replace p105:=eq_true p105;replace q105:=eq_true q105;go_wp2;go_roundg k3
                case measure=>have:=HJ2.out;have:=HK2.out;have:=HK3.out;omega
                case rel=>exact ⟨(rd ((rd_T53 l0 x22_2).f0) x29_3),(wrap64 (x29_3+1)),(by first|rfl|(simp;done)|(simp [*];done)),(by first|rfl|(simp;done)|(simp [*];done)),H',⟨by have:=HJ2.out;have:=HK2.out;have:=HK3.out;omega⟩,⟨by (with_reducible repeat (first|apply Qi|apply Qj|apply Qh));exact BK104.out⟩,⟨by repeat (first|(with_reducible first|exact HB.out|apply Qc|apply Qa|apply Qb|refine Qd ?_ GE104.out)|exact HB.out)⟩⟩
               ·rw [if_neg c18] at H;have c18b0:decide (x9_3<(rd ((rd_T53 l0 x22_2).f0) x29_3))=false:=decide_eq_false c18;clear c18;have H':=aM H;clear H;have p105:0≤(x29_3:Int):=of_decide_eq_true (by first|(with_reducible assumption)|assumption);have q105:x29_3<(((rd_T53 l0 x22_2).f0).length:Int):=of_decide_eq_true (by first|(with_reducible assumption)|assumption);obtain ⟨ad105,e105,hx105_0⟩:=Kd.at_int HR103_0.out x29_3 p105 q105
                cases e105
                replace hx105_0:=(HB.out.cell (aI w _ hx105_0)).trans hx105_0;replace p105:=eq_true p105;replace q105:=eq_true q105;go_wp2;go_roundg k3
                case measure=>have:=HJ2.out;have:=HK2.out;have:=HK3.out;omega
                case rel=>exact ⟨(x9_3),(wrap64 (x29_3+1)),(by first|rfl|(simp;done)|(simp [*];done)),(by first|rfl|(simp;done)|(simp [*];done)),H',⟨by have:=HJ2.out;have:=HK2.out;have:=HK3.out;omega⟩,⟨by (with_reducible repeat (first|apply Qi|apply Qj|apply Qh));exact BK104.out⟩,⟨by repeat (first|(with_reducible first|exact HB.out|apply Qc|apply Qa|apply Qb|refine Qd ?_ GE104.out)|exact HB.out)⟩⟩
              ·rw [if_neg c17] at H;exact absurd H (by simp)
             ·rw [if_neg c16] at H;exact absurd H (by simp)
            ·rw [if_neg c15] at H;have c15b0:decide (x29_3<(((rd_T53 l0 x22_2).f0).length:Int))=false:=decide_eq_false c15;clear c15;have H':=aM H;clear H;go_wp2;go_roundg k3
             case measure=>have:=HJ2.out;have:=HK2.out;have:=HK3.out;omega
             case rel=>exact ⟨(wrap64 (x6_2+x9_3)),(wrap64 (x22_2+1)),(by first|rfl|(simp;done)|(simp [*];done)),(by first|rfl|(simp;done)|(simp [*];done)),H',⟨by have:=HJ2.out;have:=HK2.out;have:=HK3.out;omega⟩,⟨by repeat (first|(with_reducible first|exact HB.out|apply Qc|apply Qa|apply Qb|refine Qd ?_ GE104.out)|exact HB.out)⟩⟩
         ·rw [if_neg c12] at H;exact absurd H (by simp)
        ·rw [if_neg c11] at H;exact absurd H (by simp)
       ·rw [if_neg c10] at H;have c10b0:decide (x22_2<(l0.length:Int))=false:=decide_eq_false c10;clear c10;simp only [Option.some.injEq,Prod.mk.injEq] at H;obtain ⟨rfl,rfl⟩:=H;go_wp2
        go_ret2
        exact ⟨by first|rfl|(simp [errW_none,errW_some] <;> rfl)|(simp [*,errW_none,errW_some] <;> rfl),by repeat (first|(with_reducible first|exact HB.out|apply Qc|apply Qa|apply Qb)|exact HB.out)⟩

mutual
def impl_ValueOf.j0:Nat→List (S53)→List Int→Bool→Option (Int×Bool)
  |0,_,_,_=>none
  |k+1,x0,x1,x18=>if x18=true then (some (0,false)) else (impl_ValueOf.l0 k x0 0 x1 (x1.length:Int) 0)
def impl_ValueOf.l0:Nat→List (S53)→Int→List Int→Int→Int→Option (Int×Bool)
  |0,_,_,_,_,_=>none
  |k+1,x0,x6,x19,x20,x21=>if x21<x20 then (if 0≤x21 then (if x21<(x19.length:Int) then (if x21<(x0.length:Int) then ((impl_within.f (rd x19 x21) 0 (((rd_T53 x0 x21).f0).length:Int)).bind fun t104=>(if t104=true then ((impl_Offer_gain.f ((rd_T53 x0 x21).f0) (rd x19 x21)).bind fun t106=>(impl_ValueOf.l0 k x0 (wrap64 (x6+t106)) x19 x20 (wrap64 (x21+1)))) else (some (0,false)))) else (none)) else (none)) else (none)) else (some (x6,true))
end
def impl_ValueOf.f (k:Nat) (l0:List (S53)) (l1:List Int):Option (Int×Bool):=(impl_GoodOffers.f k l0).bind fun t101=>(if t101=true then (impl_ValueOf.j0 k l0 l1 ((l1.length:Int) != (l0.length:Int))) else (impl_ValueOf.j0 k l0 l1 true))
set_option maxHeartbeats 8000000 in
set_option maxRecDepth 100000 in
theorem impl_ValueOf.calls (k:Nat) (A0:Option Addr) (c0:Nat) (l0:List (S53)) (A1:Option Addr) (c1:Nat) (l1:List Int) (r1:Int) (r2:Bool) (w:World) (hr0:Kd.C k53 w A0 l0.length l0) (hc0:l0.length≤c0) (hr1:Kd.C (Kd.int .i64) w A1 l1.length l1) (hc1:l1.length≤c1) (h:impl_ValueOf.f k l0 l1=some (r1,r2)) :
    Calls Try.prog 50 #[.slice A0 l0.length c0,.slice A1 l1.length c1] w fun e w'=>e= .returned (.tuple #[.int .i64 r1,.bool r2])∧Below w.heap.size w w':=by
  have hu53:=Try.underlying53;have HR0:=aM hr0;have HC0:=aM hc0;clear hr0 hc0;have HR1:=aM hr1;have HC1:=aM hc1;clear hr1 hc1;have HB:=aM (Below.refl w.heap.size w);have H:((impl_GoodOffers.f k l0).bind fun t101=>(if t101=true then (impl_ValueOf.j0 k l0 l1 ((l1.length:Int) != (l0.length:Int))) else (impl_ValueOf.j0 k l0 l1 true)))=some (r1,r2):=h;clear h;have HC3:=aM H;clear H;go_enter Try.func50,Try.ntmps50
  go_upto_region 1 with (fail)
  go_cut [18] (fun v18 wc=>∃ (kq:Nat) (x18_2:Bool),v18= .bool x18_2∧Aside0 (impl_ValueOf.j0 kq l0 l1 x18_2=some (r1,r2))∧Aside0 (kq≤k)∧Aside0 (Below w.heap.size w wc))
  case first=>
   have H:=HC3.out;clear HC3;replace H:=Option.bind_eq_some_iff.mp H;obtain ⟨t101,A40,H⟩:=H;replace H:(if t101=true then (impl_ValueOf.j0 k l0 l1 ((l1.length:Int) != (l0.length:Int))) else (impl_ValueOf.j0 k l0 l1 true))=some (r1,r2):=H;have A4:=aM A40;clear A40;by_cases c5:t101=true
   ·subst c5;have H1:(impl_ValueOf.j0 k l0 l1 ((l1.length:Int) != (l0.length:Int)))=some (r1,r2):=by rw [if_pos rfl] at H;exact H
    clear H;have H:=H1;clear H1;have H':=aM H;clear H;go_wp2_with (first|((with_reducible refine Qt (f:=48) rfl ?_);refine goesL_ (some 10) rfl rfl Try.func48 (by kernel_rfl) rfl #[.slice A0 l0.length c0] rfl (by (try simp only [aD,aE,aF]);first|done|rfl|(simp only [aG,aH];rfl)) ?_;(with_reducible refine (impl_GoodOffers.calls k _ _ l0 true _ ?side1 ?side2 A4.out).mono ?_);(case side1=>repeat (first|exact (Kd.C_below HR0.out HB.out)|(with_reducible refine Kd.Ql ?_ _)|(with_reducible refine Kd.Qm ?_ _)|(with_reducible refine Kd.C_drew ?_)));(case side2=>exact HC0.out);rintro e w6 ⟨rfl,hb⟩;refine ⟨_,rfl,?_⟩;have n0_:=aM (Qg (by repeat (first|(with_reducible first|exact HB.out|apply Qc|apply Qa|apply Qb)|exact HB.out)) hb);clear HB;have HB:=n0_;clear n0_;(try clear hb);(try clear hb2);(try clear hk);(try clear hi)))
    go_meet
    case rel=>exact ⟨_,(((l1.length:Int) != (l0.length:Int))),(by first|rfl|(simp;done)|(simp [*];done)),H',⟨by first|omega|exact Nat.le_refl _⟩,⟨by repeat (first|(with_reducible first|exact HB.out|apply Qc|apply Qa|apply Qb)|exact HB.out)⟩⟩
   ·replace c5:=Bool.eq_false_iff.mpr c5;subst c5;have H1:(impl_ValueOf.j0 k l0 l1 true)=some (r1,r2):=by rw [if_neg (show ¬ (false=true) by decide)] at H;exact H
    clear H;have H:=H1;clear H1;have H':=aM H;clear H;go_wp2_with (first|((with_reducible refine Qt (f:=48) rfl ?_);refine goesL_ (some 10) rfl rfl Try.func48 (by kernel_rfl) rfl #[.slice A0 l0.length c0] rfl (by (try simp only [aD,aE,aF]);first|done|rfl|(simp only [aG,aH];rfl)) ?_;(with_reducible refine (impl_GoodOffers.calls k _ _ l0 false _ ?side1 ?side2 A4.out).mono ?_);(case side1=>repeat (first|exact (Kd.C_below HR0.out HB.out)|(with_reducible refine Kd.Ql ?_ _)|(with_reducible refine Kd.Qm ?_ _)|(with_reducible refine Kd.C_drew ?_)));(case side2=>exact HC0.out);rintro e w7 ⟨rfl,hb⟩;refine ⟨_,rfl,?_⟩;have n0_:=aM (Qg (by repeat (first|(with_reducible first|exact HB.out|apply Qc|apply Qa|apply Qb)|exact HB.out)) hb);clear HB;have HB:=n0_;clear n0_;(try clear hb);(try clear hb2);(try clear hk);(try clear hi)))
    go_meet
    case rel=>exact ⟨_,(true),(by first|rfl|(simp;done)|(simp [*];done)),H',⟨by first|omega|exact Nat.le_refl _⟩,⟨by repeat (first|(with_reducible first|exact HB.out|apply Qc|apply Qa|apply Qb)|exact HB.out)⟩⟩
  case rest=>
   clear HC3;(try clear c1);(try clear p2);(try clear c4);(try clear c5);obtain ⟨kq,x18_2,rfl,HA,HJ2,HB⟩:=hcut
   cases kq with
   |zero=>exact absurd HA.out (by simp [impl_ValueOf.j0])
   |succ kj2=>
    have H:=HA.out;clear HA;simp only [impl_ValueOf.j0] at H;by_cases c8:x18_2=true
    ·subst c8;have H1:(some (0,false))=some (r1,r2):=by rw [if_pos rfl] at H;exact H
     clear H;have H:=H1;clear H1;simp only [Option.some.injEq,Prod.mk.injEq] at H;obtain ⟨rfl,rfl⟩:=H;go_wp2
     go_ret2
     exact ⟨by first|rfl|(simp [errW_none,errW_some] <;> rfl)|(simp [*,errW_none,errW_some] <;> rfl),by repeat (first|(with_reducible first|exact HB.out|apply Qc|apply Qa|apply Qb)|exact HB.out)⟩
    ·replace c8:=Bool.eq_false_iff.mpr c8;subst c8;have H1:(impl_ValueOf.l0 kj2 l0 0 l1 (l1.length:Int) 0)=some (r1,r2):=by rw [if_neg (show ¬ (false=true) by decide)] at H;exact H
     clear H;have H:=H1;clear H1;have H':=aM H;clear H;go_wp2;go_loopg [6,21] kj2 (fun kq v6 v21 w'=>∃ (x6_2:Int) (x21_2:Int),v6= .int .i64 x6_2∧v21= .int .i64 x21_2∧Aside0 (impl_ValueOf.l0 kq l0 x6_2 l1 (l1.length:Int) x21_2=some (r1,r2))∧Aside0 (kq≤kj2)∧Aside0 (Below w.heap.size w w'))
     case atStart=>exact ⟨(0),(0),(by first|rfl|(simp;done)|(simp [*];done)),(by first|rfl|(simp;done)|(simp [*];done)),H',⟨Nat.le_refl _⟩,⟨by repeat (first|(with_reducible first|exact HB.out|apply Qc|apply Qa|apply Qb)|exact HB.out)⟩⟩
     case round=>
      clear H';(try clear c1);(try clear p2);(try clear c4);(try clear c5);(try clear c8);(try clear p2);obtain ⟨x6_2,x21_2,rfl,rfl,HA,HK2,HB⟩:=hrel
      cases gk with
      |zero=>exact absurd HA.out (by simp [impl_ValueOf.l0])
      |succ k2=>
       have H:=HA.out;clear HA;simp only [impl_ValueOf.l0] at H;by_cases c9:x21_2<(l1.length:Int)
       ·rw [if_pos c9] at H;have c9b0:decide (x21_2<(l1.length:Int))=true:=decide_eq_true c9;clear c9;by_cases c10:0≤x21_2
        ·rw [if_pos c10] at H;have c10b0:decide (0≤x21_2)=true:=decide_eq_true c10;clear c10;by_cases c11:x21_2<(l1.length:Int)
         ·rw [if_pos c11] at H;have c11b0:decide (x21_2<(l1.length:Int))=true:=decide_eq_true c11;clear c11;by_cases c12:x21_2<(l0.length:Int)
          ·rw [if_pos c12] at H;have c12b0:decide (x21_2<(l0.length:Int))=true:=decide_eq_true c12;clear c12;replace H:=Option.bind_eq_some_iff.mp H;obtain ⟨t104,A130,H⟩:=H;replace H:(if t104=true then ((impl_Offer_gain.f ((rd_T53 l0 x21_2).f0) (rd l1 x21_2)).bind fun t106=>(impl_ValueOf.l0 k2 l0 (wrap64 (x6_2+t106)) l1 (l1.length:Int) (wrap64 (x21_2+1)))) else (some (0,false)))=some (r1,r2):=H;have A13:=aM A130;clear A130;by_cases c14:t104=true
           ·subst c14;have H1:((impl_Offer_gain.f ((rd_T53 l0 x21_2).f0) (rd l1 x21_2)).bind fun t106=>(impl_ValueOf.l0 k2 l0 (wrap64 (x6_2+t106)) l1 (l1.length:Int) (wrap64 (x21_2+1))))=some (r1,r2):=by rw [if_pos rfl] at H;exact H
            clear H;have H:=H1;clear H1;replace H:=Option.bind_eq_some_iff.mp H;obtain ⟨t106,A150,H⟩:=H;replace H:(impl_ValueOf.l0 k2 l0 (wrap64 (x6_2+t106)) l1 (l1.length:Int) (wrap64 (x21_2+1)))=some (r1,r2):=H;have A15:=aM A150;clear A150;have H':=aM H;clear H;have p102:0≤(x21_2:Int):=of_decide_eq_true (by first|(with_reducible assumption)|assumption);have q102:x21_2<(l1.length:Int):=of_decide_eq_true (by first|(with_reducible assumption)|assumption);obtain ⟨ad102,e102,hx102_0⟩:=Kd.at_int HR1.out x21_2 p102 q102
            cases e102
            replace hx102_0:=(HB.out.cell (aI w _ hx102_0)).trans hx102_0;replace p102:=eq_true p102;replace q102:=eq_true q102;have p103:0≤(x21_2:Int):=of_decide_eq_true (by first|(with_reducible assumption)|assumption);have q103:x21_2<(l0.length:Int):=of_decide_eq_true (by first|(with_reducible assumption)|assumption);obtain ⟨ad103,A103_0,c103_0,e103,hx103_0,hl103_0,hi103_0⟩:=at_T53 HR0.out x21_2 p103 q103
            cases e103
            replace hx103_0:=(HB.out.cell (aI w _ hx103_0)).trans hx103_0;have HR103_0:=aM hi103_0;have HC103_0:=aM hl103_0;clear hi103_0 hl103_0;replace p103:=eq_true p103;replace q103:=eq_true q103;go_wp2_with (first|((with_reducible refine Qt (f:=113) rfl ?_);refine goesL_ (some 33) rfl rfl Try.func113 (by kernel_rfl) rfl #[.int .i64 (rd l1 x21_2),.int .i64 0,.int .i64 (((rd_T53 l0 x21_2).f0).length:Int)] rfl (by (try simp only [aD,aE,aF]);first|done|rfl|(simp only [aG,aH];rfl)) ?_;(with_reducible refine (impl_within.calls (rd l1 x21_2) 0 (((rd_T53 l0 x21_2).f0).length:Int) true _ A13.out).mono ?_);rintro e w' ⟨rfl,⟨nd,rfl⟩⟩;refine ⟨_,rfl,?_⟩;have p105:0≤(x21_2:Int):=of_decide_eq_true (by first|(with_reducible assumption)|assumption);have q105:x21_2<(l0.length:Int):=of_decide_eq_true (by first|(with_reducible assumption)|assumption);obtain ⟨ad105,A105_0,c105_0,e105,hx105_0,hl105_0,hi105_0⟩:=at_T53 HR0.out x21_2 p105 q105;obtain rfl:ad103=ad105:=(by injection e105);replace hx105_0:=(HB.out.cell (aI w _ hx105_0)).trans hx105_0;have HR105_0:=aM hi105_0;have HC105_0:=aM hl105_0;clear hi105_0 hl105_0;replace p105:=eq_true p105;replace q105:=eq_true q105;have ea_:=Option.some.inj (hx103_0.symm.trans hx105_0);injection ea_ with ea_ en_ ec_;subst ea_;subst ec_;clear en_)|((with_reducible refine Qt (f:=144) rfl ?_);refine goesL_ (some 41) rfl rfl Try.func144 (by kernel_rfl) rfl #[.agg #[.slice A103_0 ((rd_T53 l0 x21_2).f0).length c103_0],.int .i64 (rd l1 x21_2)] rfl (by (try simp only [aD,aE,aF]);first|done|rfl|(simp only [aG,aH];rfl)) ?_;(with_reducible refine (impl_Offer_gain.calls _ _ ((rd_T53 l0 x21_2).f0) (rd l1 x21_2) t106 _ ?side1 ?side2 A15.out).mono ?_);(case side1=>repeat (first|exact (Kd.C_below HR105_0.out (by repeat (first|(with_reducible first|exact HB.out|apply Qc|apply Qa|apply Qb)|exact HB.out)))|(with_reducible refine Kd.Ql ?_ _)|(with_reducible refine Kd.Qm ?_ _)|(with_reducible refine Kd.C_drew ?_)));(case side2=>exact HC105_0.out);rintro e w16 ⟨rfl,hb⟩;refine ⟨_,rfl,?_⟩;have n0_:=aM (Qg (by repeat (first|(with_reducible first|exact HB.out|apply Qc|apply Qa|apply Qb)|exact HB.out)) hb);clear HB;have HB:=n0_;clear n0_;(try clear hb);(try clear hb2);(try clear hk);(try clear hi)))
            go_roundg k2
            case measure=>have:=HJ2.out;have:=HK2.out;omega
            case rel=>exact ⟨(wrap64 (x6_2+t106)),(wrap64 (x21_2+1)),(by first|rfl|(simp;done)|(simp [*];done)),(by first|rfl|(simp;done)|(simp [*];done)),H',⟨by have:=HJ2.out;have:=HK2.out;omega⟩,⟨by repeat (first|(with_reducible first|exact HB.out|apply Qc|apply Qa|apply Qb)|exact HB.out)⟩⟩
           ·replace c14:=Bool.eq_false_iff.mpr c14;subst c14;have H1:(some (0,false))=some (r1,r2):=by rw [if_neg (show ¬ (false=true) by decide)] at H;exact H
            clear H;have H:=H1;clear H1;simp only [Option.some.injEq,Prod.mk.injEq] at H;obtain ⟨rfl,rfl⟩:=H;have p102:0≤(x21_2:Int):=of_decide_eq_true (by first|(with_reducible assumption)|assumption);have q102:x21_2<(l1.length:Int):=of_decide_eq_true (by first|(with_reducible assumption)|assumption);obtain ⟨ad102,e102,hx102_0⟩:=Kd.at_int HR1.out x21_2 p102 q102
            cases e102
            replace hx102_0:=(HB.out.cell (aI w _ hx102_0)).trans hx102_0;replace p102:=eq_true p102;replace q102:=eq_true q102;have p103:0≤(x21_2:Int):=of_decide_eq_true (by first|(with_reducible assumption)|assumption);have q103:x21_2<(l0.length:Int):=of_decide_eq_true (by first|(with_reducible assumption)|assumption);obtain ⟨ad103,A103_0,c103_0,e103,hx103_0,hl103_0,hi103_0⟩:=at_T53 HR0.out x21_2 p103 q103
            cases e103
            replace hx103_0:=(HB.out.cell (aI w _ hx103_0)).trans hx103_0;have HR103_0:=aM hi103_0;have HC103_0:=aM hl103_0;clear hi103_0 hl103_0;replace p103:=eq_true p103;replace q103:=eq_true q103;go_wp2_with (first|((with_reducible refine Qt (f:=113) rfl ?_);refine goesL_ (some 33) rfl rfl Try.func113 (by kernel_rfl) rfl #[.int .i64 (rd l1 x21_2),.int .i64 0,.int .i64 (((rd_T53 l0 x21_2).f0).length:Int)] rfl (by (try simp only [aD,aE,aF]);first|done|rfl|(simp only [aG,aH];rfl)) ?_;(with_reducible refine (impl_within.calls (rd l1 x21_2) 0 (((rd_T53 l0 x21_2).f0).length:Int) false _ A13.out).mono ?_);rintro e w' ⟨rfl,⟨nd,rfl⟩⟩;refine ⟨_,rfl,?_⟩))
            go_ret2
            exact ⟨by first|rfl|(simp [errW_none,errW_some] <;> rfl)|(simp [*,errW_none,errW_some] <;> rfl),by repeat (first|(with_reducible first|exact HB.out|apply Qc|apply Qa|apply Qb)|exact HB.out)⟩
          ·rw [if_neg c12] at H;exact absurd H (by simp)
         ·rw [if_neg c11] at H;exact absurd H (by simp)
        ·rw [if_neg c10] at H;exact absurd H (by simp)
       ·rw [if_neg c9] at H;have c9b0:decide (x21_2<(l1.length:Int))=false:=decide_eq_false c9;clear c9;simp only [Option.some.injEq,Prod.mk.injEq] at H;obtain ⟨rfl,rfl⟩:=H;go_wp2
        go_ret2
        exact ⟨by first|rfl|(simp [errW_none,errW_some] <;> rfl)|(simp [*,errW_none,errW_some] <;> rfl),by repeat (first|(with_reducible first|exact HB.out|apply Qc|apply Qa|apply Qb)|exact HB.out)⟩

def spec_DrawValueOf.l0:Nat→List (S53)→List Int→List (S53)→Int→Int→List Int→Int→Int→Option ((List (S53))×List Int)
  |0,_,_,_,_,_,_,_,_=>none
  |k+1,x5,x6,x14,x15,x16,x102000,x102001,x102002=>if x16<x15 then (if 0≤x16 then (if x16<(x14.length:Int) then ((spec_l1Cur_pick.f x102000 x102001 x102002 (wrap64 ((((rd_T53 x14 x16).f0).length:Int)+1))).bind fun bt109=>(if x6.length<17592186044416 then (spec_DrawValueOf.l0 k x5 (x6 ++ [bt109.1]) x14 x15 (wrap64 (x16+1)) x102000 bt109.2.1 bt109.2.2) else (none))) else (none)) else (none)) else (if (x6.length:Int) > 0 then ((spec_l1Cur_one.f x102000 x102001 x102002 12).bind fun bt115=>(if bt115.1=true then ((spec_l1Cur_pick.f x102000 bt115.2.1 bt115.2.2 9).bind fun bt118=>(if 0<(x6.length:Int) then (some (x5,(x6.set (0:Int).toNat (wrap64 (bt118.1 - 1))))) else (none))) else (some (x5,x6)))) else (some (x5,x6)))
def spec_DrawValueOf.f (k:Nat) (l0:List Int):Option ((List (S53))×List Int):=(spec_l1Cur_offers.f k l0 0 0).bind fun bt102=>(spec_DrawValueOf.l0 k bt102.1 ([]:List Int) bt102.1 (bt102.1.length:Int) 0 l0 bt102.2.1 bt102.2.2)
set_option maxHeartbeats 8000000 in
set_option maxRecDepth 100000 in
theorem spec_DrawValueOf.calls (k:Nat) (A0:Option Addr) (c0:Nat) (l0:List Int) (r1:List (S53)) (r2:List Int) (w:World) (hr0:Kd.C (Kd.int .u8) w A0 l0.length l0) (hc0:l0.length≤c0) (h:spec_DrawValueOf.f k l0=some (r1,r2)) :
    Calls Try.prog 51 #[.slice A0 l0.length c0] w fun e w'=>∃ v0_ v1_:Value,e= .returned (.tuple #[v0_,v1_])∧Kd.S k53 53 w' w.heap.size (fun k_=>some k_≠(v1_:Value).ownBlock) v0_ r1∧Kd.R (Kd.int .i64) 3 w' w.heap.size (fun _=>True) v1_ r2∧Below w.heap.size w w':=by
  have hu117:=Try.underlying117;have hu53:=Try.underlying53;have HR0:=aM hr0;have HC0:=aM hc0;clear hr0 hc0;have HB:=aM (Below.refl w.heap.size w);have H:((spec_l1Cur_offers.f k l0 0 0).bind fun bt102=>(spec_DrawValueOf.l0 k bt102.1 ([]:List Int) bt102.1 (bt102.1.length:Int) 0 l0 bt102.2.1 bt102.2.2))=some (r1,r2):=h;clear h;replace H:=Option.bind_eq_some_iff.mp H;obtain ⟨⟨t102,t105,t106⟩,A20,H⟩:=H;replace H:(spec_DrawValueOf.l0 k t102 ([]:List Int) t102 (t102.length:Int) 0 l0 t105 t106)=some (r1,r2):=H;have A2:=aM A20;clear A20;have H':=aM H;clear H;go_enter Try.func51,Try.ntmps51;go_wp2_with (first|((with_reducible refine gate_dst (N:=11) rfl ?_);refine box_event ?hg (N:=11) ?hd (cs:=#[.slice A0 l0.length c0,.int .i64 0,.int .u64 0]) (t:=117) ?hr ?_;(case hd=>rfl);(case hg=>rfl);(case hr=>first|(go_simp;done)|(go_simp;rfl));intro gb101 hg w3 hbox hb;have n0_:=aM (Qg (by repeat (first|(with_reducible first|exact HB.out|apply Qc|apply Qa|apply Qb)|exact HB.out)) hb);have n1_:=aM ((show IsS117 w w3 gb101 l0 0 0 from ⟨A0,c0,hbox,(by rw [hg];exact (Qk (by repeat (first|(with_reducible first|exact HB.out|apply Qc|apply Qa|apply Qb)|exact HB.out)))),HR0.out⟩));have n2_:=aM ((by rw [hg];exact (Qk (by repeat (first|(with_reducible first|exact HB.out|apply Qc|apply Qa|apply Qb)|exact HB.out))):w.heap.size≤gb101));have n3_:=aM ((by rw [hg];exact (Qk (by repeat (first|(with_reducible first|exact HB.out|apply Qc|apply Qa|apply Qb)|exact HB.out))):w.heap.size≤gb101));clear HB;have HB:=n0_;have HI101:=n1_;have GW101:=n2_;have GE101:=n3_;clear n0_ n1_ n2_ n3_;clear hb hbox hg)|((with_reducible refine Qt (f:=138) rfl ?_);refine goesL_ (some 13) rfl rfl Try.func138 (by kernel_rfl) rfl #[.pointer (some ⟨gb101,0,none⟩)] rfl (by (try simp only [aD,aE,aF]);first|done|rfl|(simp only [aG,aH];rfl)) ?_;(with_reducible refine (spec_l1Cur_offers.calls k gb101 l0 0 0 t102 t105 t106 w _ ?side1 ?side2 A2.out).mono ?_);(case side1=>repeat (first|(with_reducible first|exact HI101.out|apply IsS117.alloc|apply IsS117.drewN|apply IsS117.drew|apply IsS117.set_1|apply IsS117.set_2)|exact HI101.out));(case side2=>repeat (first|(with_reducible first|exact HB.out|apply Qc|apply Qa|apply Qb|refine Qd ?_ (IsS117.ge HI101.out))|exact HB.out));rintro e w4 ⟨v103,rfl,ho0,hi,hb,hk⟩;refine ⟨_,rfl,?_⟩;have n0_:=aM (Kd.S_lower ho0 (Qk (by repeat (first|(with_reducible first|exact HB.out|apply Qc|apply Qa|apply Qb|refine Qd ?_ (IsS117.ge HI101.out))|exact HB.out))));have n1_:=aM (hb);have n2_:=aM (hi);clear HB;clear HI101;have HO104:=n0_;have HB:=n1_;have HI101:=n2_;clear n0_ n1_ n2_;(try clear hb);(try clear hb2);(try clear hk);(try clear hi);(try clear ho0);obtain ⟨Ao5,co5,eo5⟩:=Kd.S_slice HO104.out;subst eo5))
  go_loopg [6,16] k (fun kq v6 v16 w'=>∃ (x6_1:List Int) (x16_1:Int) (x102001_1:Int) (x102002_1:Int),v16= .int .i64 x16_1∧Aside0 (spec_DrawValueOf.l0 kq t102 x6_1 t102 (t102.length:Int) x16_1 l0 x102001_1 x102002_1=some (r1,r2))∧Aside0 (kq≤k)∧Aside0 (Kd.S k53 53 w' w.heap.size (fun k_=>some k_≠(v6:Value).ownBlock) (.slice Ao5 t102.length co5) t102)∧Aside0 (Kd.R (Kd.int .i64) 3 w' w.heap.size (fun _=>True) v6 x6_1)∧Aside0 (Kd.S k53 53 w' w.heap.size (fun k_=>some k_≠(v6:Value).ownBlock) (.slice Ao5 t102.length co5) t102)∧Aside0 (IsS117 w w' gb101 l0 x102001_1 x102002_1)∧Aside0 (Below w.heap.size w w'))
  case atStart=>exact ⟨(([]:List Int)),(0),(t105),(t106),(by first|rfl|(simp;done)|(simp [*];done)),H',⟨Nat.le_refl _⟩,⟨by (with_reducible repeat (first|apply Kd.S_alloc|apply Kd.S_drewN|apply Kd.S_drew));exact Kd.S_mono HO104.out (fun _ hk=>(by simp [Value.ownBlock]))⟩,⟨by first|exact Kd.R_nil _ _ _ _ _|exact Kd.N_nil _ _ _ _ _|exact Kd.V_nil _ _ _ _ _|exact Kd.Q_nil _ _ _ _ _|exact Kd.S_nil _ _ _ _ _⟩,⟨by (with_reducible repeat (first|apply Kd.S_alloc|apply Kd.S_drewN|apply Kd.S_drew));exact Kd.S_mono HO104.out (fun _ hk=>(by simp [Value.ownBlock]))⟩,⟨by repeat (first|(with_reducible first|exact HI101.out|apply IsS117.alloc|apply IsS117.drewN|apply IsS117.drew|apply IsS117.set_1|apply IsS117.set_2)|exact HI101.out)⟩,⟨by repeat (first|(with_reducible first|exact HB.out|apply Qc|apply Qa|apply Qb|refine Qd ?_ (IsS117.ge HI101.out))|exact HB.out)⟩⟩
  case round=>
   clear H';(try clear c1);(try clear p2);(try clear c5);obtain ⟨x6_1,x16_1,x102001_1,x102002_1,rfl,HA,HK1,HO_5,HO_6,HO_14,HI101,HB⟩:=hrel
   cases gk with
   |zero=>exact absurd HA.out (by simp [spec_DrawValueOf.l0])
   |succ k1=>
    have H:=HA.out;clear HA;simp only [spec_DrawValueOf.l0] at H;by_cases c6:x16_1<(t102.length:Int)
    ·rw [if_pos c6] at H;have c6b0:decide (x16_1<(t102.length:Int))=true:=decide_eq_true c6;clear c6;by_cases c7:0≤x16_1
     ·rw [if_pos c7] at H;have c7b0:decide (0≤x16_1)=true:=decide_eq_true c7;clear c7;by_cases c8:x16_1<(t102.length:Int)
      ·rw [if_pos c8] at H;have c8b0:decide (x16_1<(t102.length:Int))=true:=decide_eq_true c8;clear c8;replace H:=Option.bind_eq_some_iff.mp H;obtain ⟨⟨t109,t110,t111⟩,A90,H⟩:=H;replace H:(if x6_1.length<17592186044416 then (spec_DrawValueOf.l0 k1 t102 (x6_1 ++ [t109]) t102 (t102.length:Int) (wrap64 (x16_1+1)) l0 t110 t111) else (none))=some (r1,r2):=H;have A9:=aM A90;clear A90;by_cases c10:x6_1.length<17592186044416
       ·rw [if_pos c10] at H;have LMc10:=aM c10;clear c10;obtain ⟨y112,hy112⟩:∃ y_:List Int,y_=(x6_1 ++ [t109]):=⟨_,rfl⟩;replace H:(spec_DrawValueOf.l0 k1 t102 y112 t102 (t102.length:Int) (wrap64 (x16_1+1)) l0 t110 t111)=some (r1,r2):=by first|(rw [hy112];with_reducible exact H)|(have H2_:=(Option.bind_some _ _).symm.trans H;rw [hy112];with_reducible exact H2_)|(have H2_:=(Option.bind_some _ _).symm.trans H;with_reducible exact H2_)|with_reducible exact H|(rw [hy112];exact H)|exact H
        have Ny112:=aM hy112;clear hy112;have H':=aM H;clear H;have p107:0≤(x16_1:Int):=of_decide_eq_true (by first|(with_reducible assumption)|assumption);have q107:x16_1<(t102.length:Int):=of_decide_eq_true (by first|(with_reducible assumption)|assumption);obtain ⟨ad107,A107_0,c107_0,e107,hx107_0,hl107_0,hi107_0⟩:=at_T53 (Kd.S_reads' HO_14.out).2.2 x16_1 p107 q107
        cases e107
        obtain ⟨ce107,hce107,hMe107,hcc107⟩:=Kd.S_get HO_14.out z53 x16_1 p107 (by first|exact q107|exact of_decide_eq_true (by first|(with_reducible assumption)|assumption)|(have e_:=(Kd.S_reads' HO_14.out).1;omega));obtain ⟨ve107_0,rfl,ge107_0⟩:=k53_openM hMe107;have hv107_0:=hcc107 0 _ rfl;rw [Nat.add_zero,show (k53).sz=1 from rfl,Nat.mul_one] at hv107_0;replace hv107_0:=Option.some.inj (hv107_0.symm.trans hx107_0);rw [hv107_0] at ge107_0;have HL107_0:=aM (show Kd.R (Kd.int .i64) 3 _ _ _ _ ((rd_T53 t102 x16_1).f0) from ge107_0);clear hv107_0 ge107_0;clear hcc107 hce107;have HR107_0:=aM hi107_0;have HC107_0:=aM hl107_0;clear hi107_0 hl107_0;replace p107:=eq_true p107;replace q107:=eq_true q107;go_wp2_with (first|((with_reducible refine gate_dst (N:=8) rfl ?_);refine box_event ?hg (N:=8) ?hd (cs:=#[.slice none 0 0]) (t:=53) ?hr ?_;(case hd=>rfl);(case hg=>rfl);(case hr=>first|(go_simp;done)|(go_simp;rfl));intro gb108 hg w11 hbox hb;have n0_:=aM (Kd.S_below (Kd.S_elderB (by (with_reducible repeat (first|apply Kd.S_alloc|apply Kd.S_drewN|apply Kd.S_drew));exact HO_5.out) gb108 (Nat.le_of_eq hg.symm)) hb);have n1_:=aM (Kd.Qr (by (with_reducible repeat (first|apply Kd.Qf|apply Kd.Qe|apply Kd.R_drew));exact HO_6.out) hb);have n2_:=aM (Kd.S_below (Kd.S_elderB (by (with_reducible repeat (first|apply Kd.S_alloc|apply Kd.S_drewN|apply Kd.S_drew));exact HO_14.out) gb108 (Nat.le_of_eq hg.symm)) hb);have n3_:=aM (Kd.Qr (by (with_reducible repeat (first|apply Kd.Qf|apply Kd.Qe|apply Kd.R_drew));exact HL107_0.out) hb);have n4_:=aM (IsS117.below (by repeat (first|(with_reducible first|exact HI101.out|apply IsS117.alloc|apply IsS117.drewN|apply IsS117.drew|apply IsS117.set_1|apply IsS117.set_2)|exact HI101.out)) hb);have n5_:=aM (Kd.C_below (by repeat (first|(with_reducible exact HR107_0.out)|(with_reducible refine Kd.Ql ?_ _)|(with_reducible refine Kd.Qm ?_ _)|(with_reducible refine Kd.C_drew ?_)|exact HR107_0.out)) hb);have n6_:=aM (Qg (by repeat (first|(with_reducible first|exact HB.out|apply Qc|apply Qa|apply Qb|refine Qd ?_ (IsS117.ge HI101.out))|exact HB.out)) hb);have n7_:=aM (hbox);have n8_:=aM ((by rw [hg];exact (Qk (by repeat (first|(with_reducible first|exact HB.out|apply Qc|apply Qa|apply Qb|refine Qd ?_ (IsS117.ge HI101.out))|exact HB.out))):w.heap.size≤gb108));have n9_:=aM ((by rw [hg];exact (Qk (by repeat (first|(with_reducible first|exact HB.out|apply Qc|apply Qa|apply Qb|refine Qd ?_ (IsS117.ge HI101.out))|exact HB.out))):w.heap.size≤gb108));have n10_:=aM ((by rw [hg];exact Nat.ne_of_lt (IsS117.lt (show IsS117 w _ gb101 l0 x102001_1 x102002_1 from by repeat (first|(with_reducible first|exact HI101.out|apply IsS117.alloc|apply IsS117.drewN|apply IsS117.drew|apply IsS117.set_1|apply IsS117.set_2)|exact HI101.out))):gb101≠gb108));have n11_:=aM ((by rw [hg];exact Nat.ne_of_gt (IsS117.lt (show IsS117 w _ gb101 l0 x102001_1 x102002_1 from by repeat (first|(with_reducible first|exact HI101.out|apply IsS117.alloc|apply IsS117.drewN|apply IsS117.drew|apply IsS117.set_1|apply IsS117.set_2)|exact HI101.out))):gb108≠gb101));clear HO_5;clear HO_6;clear HO_14;clear HL107_0;clear HI101;clear HR107_0;clear HB;have HO_5:=n0_;have HO_6:=n1_;have HO_14:=n2_;have HL107_0:=n3_;have HI101:=n4_;have HR107_0:=n5_;have HB:=n6_;have BK108:=n7_;have GW108:=n8_;have GE108:=n9_;have NB101_108:=n10_;have NB108_101:=n11_;clear n0_ n1_ n2_ n3_ n4_ n5_ n6_ n7_ n8_ n9_ n10_ n11_;clear hb hbox hg;have hnb12:=NB108_101.out;have hnc12:=NB101_108.out;have hcz13_0:w11.cell? ⟨gb108,0,none⟩=some (.slice none 0 0):=(Qu BK108.out 0).trans rfl;have hfz13_0:=Qs BK108.out 0)|((with_reducible refine Qt (f:=122) rfl ?_);refine goesL_ (some 26) rfl rfl Try.func122 (by kernel_rfl) rfl #[.pointer (some ⟨gb101,0,none⟩),.int .i64 (wrap64 ((((rd_T53 t102 x16_1).f0).length:Int)+1))] rfl (by (try simp only [aD,aE,aF]);first|done|rfl|(simp only [aG,aH];rfl)) ?_;(with_reducible refine (spec_l1Cur_pick.calls gb101 l0 x102001_1 x102002_1 (wrap64 ((((rd_T53 t102 x16_1).f0).length:Int)+1)) t109 t110 t111 w _ ?side1 ?side2 A9.out).mono ?_);(case side1=>repeat (first|(with_reducible first|exact HI101.out|apply IsS117.alloc|apply IsS117.drewN|apply IsS117.drew|apply IsS117.set_1|apply IsS117.set_2|refine IsS117.far ?_ NB101_108.out _)|exact HI101.out));(case side2=>repeat (first|(with_reducible first|exact HB.out|apply Qc|apply Qa|apply Qb|refine Qd ?_ (IsS117.ge HI101.out)|refine Qd ?_ GE108.out)|exact HB.out));rintro e w14 ⟨rfl,hi,hb,hk⟩;refine ⟨_,rfl,?_⟩;have n0_:=aM (Kd.S_mono (Kd.S_keep (IsS117.apartS (show IsS117 w _ gb101 l0 x102001_1 x102002_1 from by repeat (first|(with_reducible first|exact HI101.out|apply IsS117.alloc|apply IsS117.drewN|apply IsS117.drew|apply IsS117.set_1|apply IsS117.set_2|refine IsS117.far ?_ NB101_108.out _)|exact HI101.out)) (by (with_reducible repeat (first|apply Kd.S_alloc|apply Kd.S_drewN|apply Kd.S_drew));exact (Kd.S_mono (Kd.S_far (p:=⟨gb108,0,none⟩) (Kd.S_mono HO_5.out (fun k_ hk=>(⟨hk,hk.2⟩:_∧k_≠gb108))) (fun _ hk=>hk.2) (.slice A107_0 ((rd_T53 t102 x16_1).f0).length c107_0)) (fun _ h_=>h_.1))) (by decide)) hk (fun _ h=>h.2)) (fun _ h=>h.1));have n1_:=aM (Kd.R_mono (Kd.R_keep (IsS117.apart (show IsS117 w _ gb101 l0 x102001_1 x102002_1 from by repeat (first|(with_reducible first|exact HI101.out|apply IsS117.alloc|apply IsS117.drewN|apply IsS117.drew|apply IsS117.set_1|apply IsS117.set_2|refine IsS117.far ?_ NB101_108.out _)|exact HI101.out)) (by (with_reducible repeat (first|apply Kd.Qf|apply Kd.Qe|apply Kd.R_drew));exact (Kd.R_mono (Kd.R_far (p:=⟨gb108,0,none⟩) (Kd.Qv HO_6.out BK108.out (by decide)) (fun _ hk=>hk.2) (.slice A107_0 ((rd_T53 t102 x16_1).f0).length c107_0)) (fun _ h_=>h_.1))) (by decide)) hk (fun _ h=>h.2)) (fun _ h=>h.1));have n2_:=aM (Kd.S_mono (Kd.S_keep (IsS117.apartS (show IsS117 w _ gb101 l0 x102001_1 x102002_1 from by repeat (first|(with_reducible first|exact HI101.out|apply IsS117.alloc|apply IsS117.drewN|apply IsS117.drew|apply IsS117.set_1|apply IsS117.set_2|refine IsS117.far ?_ NB101_108.out _)|exact HI101.out)) (by (with_reducible repeat (first|apply Kd.S_alloc|apply Kd.S_drewN|apply Kd.S_drew));exact (Kd.S_mono (Kd.S_far (p:=⟨gb108,0,none⟩) (Kd.S_mono HO_14.out (fun k_ hk=>(⟨hk,hk.2⟩:_∧k_≠gb108))) (fun _ hk=>hk.2) (.slice A107_0 ((rd_T53 t102 x16_1).f0).length c107_0)) (fun _ h_=>h_.1))) (by decide)) hk (fun _ h=>h.2)) (fun _ h=>h.1));have n3_:=aM (Kd.R_mono (Kd.R_keep (IsS117.apart (show IsS117 w _ gb101 l0 x102001_1 x102002_1 from by repeat (first|(with_reducible first|exact HI101.out|apply IsS117.alloc|apply IsS117.drewN|apply IsS117.drew|apply IsS117.set_1|apply IsS117.set_2|refine IsS117.far ?_ NB101_108.out _)|exact HI101.out)) (by (with_reducible repeat (first|apply Kd.Qf|apply Kd.Qe|apply Kd.R_drew));exact (Kd.R_mono (Kd.R_far (p:=⟨gb108,0,none⟩) (Kd.Qv HL107_0.out BK108.out (by decide)) (fun _ hk=>hk.2) (.slice A107_0 ((rd_T53 t102 x16_1).f0).length c107_0)) (fun _ h_=>h_.1))) (by decide)) hk (fun _ h=>h.2)) (fun _ h=>h.1));have n4_:=aM (KeepBut.blk hk (g':=gb108) (o:= .cells #[.slice A107_0 ((rd_T53 t102 x16_1).f0).length c107_0] 53 (0,0)) (by (with_reducible repeat (first|apply Qi|apply Qj|apply Qh));refine blk_put (cs:=#[.slice none 0 0]) ?_ 0 _ rfl;(with_reducible repeat (first|apply Qi|apply Qj|apply Qh));exact BK108.out) NB108_101.out (by simp));have n5_:=aM (hb);have n6_:=aM (hi);clear HO_5;clear HO_6;clear HO_14;clear HL107_0;clear BK108;clear HB;clear HI101;have HO_5:=n0_;have HO_6:=n1_;have HO_14:=n2_;have HL107_0:=n3_;have BK108:=n4_;have HB:=n5_;have HI101:=n6_;clear n0_ n1_ n2_ n3_ n4_ n5_ n6_;(try clear hb);(try clear hb2);(try clear hk);(try clear hi))|((with_reducible refine gate_builtin (b:= .append) (xs:=#[.tmp 20,.tmp 27]) rfl ?_);at_builtin;refine Kd.R_append (Kd.int .i64) (w0:=w) w.heap.size rfl (.tmp 20) (.tmp 27) 23 3 (.int .i64 0) 8 rfl Try.underlying23 info3 rfl (by decide) (by omega) u6 x6_1 t109 [.int .i64 t109] (fun _=>True) (fun _=>False) rfl rfl ?aP (fun _ hk=>hk.elim) ?aF ?aO ?aB ?aS ?aL ?_;(case aP=>exact rfl);(case aB=>exact (by repeat (first|(with_reducible first|exact HB.out|apply Qc|apply Qa|apply Qb|refine Qd ?_ (IsS117.ge HI101.out)|refine Qd ?_ GE108.out)|exact HB.out)));(case aF=>exact (fun _ _=>trivial));(case aO=>exact (by (with_reducible repeat (first|apply Kd.Qf|apply Kd.Qe|apply Kd.R_drew));exact HO_6.out));(case aS=>exact (Qk (by repeat (first|(with_reducible first|exact HB.out|apply Qc|apply Qa|apply Qb|refine Qd ?_ (IsS117.ge HI101.out)|refine Qd ?_ GE108.out)|exact HB.out))));(case aL=>have:=LMc10.out;omega);intro v113 w15 ho hb hg hat;rw [←Ny112.out] at ho;have n0_:=aM (Kd.S_after (ok:=(fun k_=>k_≠gb108)) (by (with_reducible repeat (first|apply Kd.S_alloc|apply Kd.S_drewN|apply Kd.S_drew));exact Kd.S_mono HO_5.out (fun _ hk=>⟨hk.2,hk.1⟩)) hg hat);have n1_:=aM (Kd.S_after (ok:=(fun k_=>k_≠gb108)) (by (with_reducible repeat (first|apply Kd.S_alloc|apply Kd.S_drewN|apply Kd.S_drew));exact Kd.S_mono HO_14.out (fun _ hk=>⟨hk.2,hk.1⟩)) hg hat);have n2_:=aM (IsS117.grown (by repeat (first|(with_reducible first|exact HI101.out|apply IsS117.alloc|apply IsS117.drewN|apply IsS117.drew|apply IsS117.set_1|apply IsS117.set_2|refine IsS117.far ?_ NB101_108.out _)|exact HI101.out)) hg (IsS117.own_ne HI101.out HO_6.out (by decide)));have n3_:=aM (Kd.R_after (ok:=(fun k_=>some k_≠(.slice (some ad107) t102.length co5:Value).ownBlock)) (by (with_reducible repeat (first|apply Kd.Qf|apply Kd.Qe|apply Kd.R_drew));exact Kd.R_mono HL107_0.out (fun _ hk=>⟨hk.2,hk.1⟩)) hg hat);have n4_:=aM (blk_grown (g:=gb108) (o:= .cells #[.slice A107_0 ((rd_T53 t102 x16_1).f0).length c107_0] 53 (0,0)) (by (with_reducible repeat (first|apply Qi|apply Qj|apply Qh));exact BK108.out) hg (Kd.R_ne HO_6.out BK108.out (by decide)));have n5_:=aM (hb);have n6_:=aM (ho);clear HO_5;clear HO_14;clear HI101;clear HL107_0;clear BK108;clear HB;clear HO_6;have HO_5:=n0_;have HO_14:=n1_;have HI101:=n2_;have HL107_0:=n3_;have BK108:=n4_;have HB:=n5_;have HO114:=n6_;clear n0_ n1_ n2_ n3_ n4_ n5_ n6_;clear ho hb hg hat))
        go_roundg k1
        case measure=>have:=HK1.out;omega
        case rel=>exact ⟨(y112),(wrap64 (x16_1+1)),(t110),(t111),(by first|rfl|(simp;done)|(simp [*];done)),H',⟨by have:=HK1.out;omega⟩,⟨by (with_reducible repeat (first|apply Kd.S_alloc|apply Kd.S_drewN|apply Kd.S_drew));exact Kd.S_mono HO_5.out (fun _ hk=>hk.2)⟩,⟨by (with_reducible repeat (first|apply Kd.Qf|apply Kd.Qe|apply Kd.R_drew));exact HO114.out⟩,⟨by (with_reducible repeat (first|apply Kd.S_alloc|apply Kd.S_drewN|apply Kd.S_drew));exact Kd.S_mono HO_14.out (fun _ hk=>hk.2)⟩,⟨by repeat (first|(with_reducible first|exact HI101.out|apply IsS117.alloc|apply IsS117.drewN|apply IsS117.drew|apply IsS117.set_1|apply IsS117.set_2|refine IsS117.far ?_ NB101_108.out _)|exact HI101.out)⟩,⟨by repeat (first|(with_reducible first|exact HB.out|apply Qc|apply Qa|apply Qb|refine Qd ?_ (IsS117.ge HI101.out)|refine Qd ?_ GE108.out)|exact HB.out)⟩⟩
       ·rw [if_neg c10] at H;exact absurd H (by simp)
      ·rw [if_neg c8] at H;exact absurd H (by simp)
     ·rw [if_neg c7] at H;exact absurd H (by simp)
    ·rw [if_neg c6] at H;have c6b0:decide (x16_1<(t102.length:Int))=false:=decide_eq_false c6;clear c6;by_cases c16:(x6_1.length:Int) > 0
     ·rw [if_pos c16] at H;have c16b0:decide (0<(x6_1.length:Int))=true:=decide_eq_true c16;have c16b1:decide (0<x6_1.length)=true:=decide_eq_true (by omega);clear c16;replace H:=Option.bind_eq_some_iff.mp H;obtain ⟨⟨t115,t116,t117⟩,A170,H⟩:=H;replace H:(if t115=true then ((spec_l1Cur_pick.f l0 t116 t117 9).bind fun bt118=>(if 0<(x6_1.length:Int) then (some (t102,(x6_1.set (0:Int).toNat (wrap64 (bt118.1 - 1))))) else (none))) else (some (t102,x6_1)))=some (r1,r2):=H;have A17:=aM A170;clear A170;by_cases c18:t115=true
      ·subst c18;have H1:((spec_l1Cur_pick.f l0 t116 t117 9).bind fun bt118=>(if 0<(x6_1.length:Int) then (some (t102,(x6_1.set (0:Int).toNat (wrap64 (bt118.1 - 1))))) else (none)))=some (r1,r2):=by rw [if_pos rfl] at H;exact H
       clear H;have H:=H1;clear H1;replace H:=Option.bind_eq_some_iff.mp H;obtain ⟨⟨t118,t119,t120⟩,A190,H⟩:=H;replace H:(if 0<(x6_1.length:Int) then (some (t102,(x6_1.set (0:Int).toNat (wrap64 (t118 - 1))))) else (none))=some (r1,r2):=H;have A19:=aM A190;clear A190;by_cases c20:0<(x6_1.length:Int)
       ·rw [if_pos c20] at H;have c20b0:decide (0<(x6_1.length:Int))=true:=decide_eq_true c20;have c20b1:decide (0<x6_1.length)=true:=decide_eq_true (by omega);clear c20;obtain ⟨y121,hy121⟩:∃ y_:List Int,y_=(x6_1.set (0:Int).toNat (wrap64 (t118 - 1))):=⟨_,rfl⟩;replace H:(some (t102,y121))=some (r1,r2):=by first|(rw [hy121];with_reducible exact H)|(have H2_:=(Option.bind_some _ _).symm.trans H;rw [hy121];with_reducible exact H2_)|(have H2_:=(Option.bind_some _ _).symm.trans H;with_reducible exact H2_)|with_reducible exact H|(rw [hy121];exact H)|exact H
        have Ny121:=aM hy121;clear hy121;simp only [Option.some.injEq,Prod.mk.injEq] at H;obtain ⟨rfl,rfl⟩:=H;obtain ⟨Ao22,co22,eo22⟩:=Kd.R_slice HO_6.out;subst eo22;go_wp2_with (first|(go_at_call 120;(with_reducible refine (spec_l1Cur_one.calls gb101 l0 x102001_1 x102002_1 12 true t116 t117 w _ ?side1 ?side2 A17.out).mono ?_);(case side1=>repeat (first|(with_reducible first|exact HI101.out|apply IsS117.alloc|apply IsS117.drewN|apply IsS117.drew|apply IsS117.set_1|apply IsS117.set_2)|exact HI101.out));(case side2=>repeat (first|(with_reducible first|exact HB.out|apply Qc|apply Qa|apply Qb|refine Qd ?_ (IsS117.ge HI101.out))|exact HB.out));rintro e w23 ⟨rfl,hi,hb,hk⟩;have n0_:=aM (Kd.S_mono (Kd.S_keep (IsS117.apartS (show IsS117 w _ gb101 l0 x102001_1 x102002_1 from by repeat (first|(with_reducible first|exact HI101.out|apply IsS117.alloc|apply IsS117.drewN|apply IsS117.drew|apply IsS117.set_1|apply IsS117.set_2)|exact HI101.out)) (by (with_reducible repeat (first|apply Kd.S_alloc|apply Kd.S_drewN|apply Kd.S_drew));exact HO_5.out) (by decide)) hk (fun _ h=>h.2)) (fun _ h=>h.1));have n1_:=aM (Kd.R_mono (Kd.R_keep (IsS117.apart (show IsS117 w _ gb101 l0 x102001_1 x102002_1 from by repeat (first|(with_reducible first|exact HI101.out|apply IsS117.alloc|apply IsS117.drewN|apply IsS117.drew|apply IsS117.set_1|apply IsS117.set_2)|exact HI101.out)) (by (with_reducible repeat (first|apply Kd.Qf|apply Kd.Qe|apply Kd.R_drew));exact HO_6.out) (by decide)) hk (fun _ h=>h.2)) (fun _ h=>h.1));have n2_:=aM (Kd.S_mono (Kd.S_keep (IsS117.apartS (show IsS117 w _ gb101 l0 x102001_1 x102002_1 from by repeat (first|(with_reducible first|exact HI101.out|apply IsS117.alloc|apply IsS117.drewN|apply IsS117.drew|apply IsS117.set_1|apply IsS117.set_2)|exact HI101.out)) (by (with_reducible repeat (first|apply Kd.S_alloc|apply Kd.S_drewN|apply Kd.S_drew));exact HO_14.out) (by decide)) hk (fun _ h=>h.2)) (fun _ h=>h.1));have n3_:=aM (hb);have n4_:=aM (hi);clear HO_5;clear HO_6;clear HO_14;clear HB;clear HI101;have HO_5:=n0_;have HO_6:=n1_;have HO_14:=n2_;have HB:=n3_;have HI101:=n4_;clear n0_ n1_ n2_ n3_ n4_;(try clear hb);(try clear hb2);(try clear hk);(try clear hi))|((with_reducible refine Qt (f:=122) rfl ?_);refine goesL_ (some 39) rfl rfl Try.func122 (by kernel_rfl) rfl #[.pointer (some ⟨gb101,0,none⟩),.int .i64 9] rfl (by (try simp only [aD,aE,aF]);first|done|rfl|(simp only [aG,aH];rfl)) ?_;(with_reducible refine (spec_l1Cur_pick.calls gb101 l0 t116 t117 9 t118 t119 t120 w _ ?side1 ?side2 A19.out).mono ?_);(case side1=>repeat (first|(with_reducible first|exact HI101.out|apply IsS117.alloc|apply IsS117.drewN|apply IsS117.drew|apply IsS117.set_1|apply IsS117.set_2)|exact HI101.out));(case side2=>repeat (first|(with_reducible first|exact HB.out|apply Qc|apply Qa|apply Qb|refine Qd ?_ (IsS117.ge HI101.out))|exact HB.out));rintro e w24 ⟨rfl,hi,hb,hk⟩;refine ⟨_,rfl,?_⟩;have n0_:=aM (Kd.S_mono (Kd.S_keep (IsS117.apartS (show IsS117 w _ gb101 l0 t116 t117 from by repeat (first|(with_reducible first|exact HI101.out|apply IsS117.alloc|apply IsS117.drewN|apply IsS117.drew|apply IsS117.set_1|apply IsS117.set_2)|exact HI101.out)) (by (with_reducible repeat (first|apply Kd.S_alloc|apply Kd.S_drewN|apply Kd.S_drew));exact HO_5.out) (by decide)) hk (fun _ h=>h.2)) (fun _ h=>h.1));have n1_:=aM (Kd.R_mono (Kd.R_keep (IsS117.apart (show IsS117 w _ gb101 l0 t116 t117 from by repeat (first|(with_reducible first|exact HI101.out|apply IsS117.alloc|apply IsS117.drewN|apply IsS117.drew|apply IsS117.set_1|apply IsS117.set_2)|exact HI101.out)) (by (with_reducible repeat (first|apply Kd.Qf|apply Kd.Qe|apply Kd.R_drew));exact HO_6.out) (by decide)) hk (fun _ h=>h.2)) (fun _ h=>h.1));have n2_:=aM (Kd.S_mono (Kd.S_keep (IsS117.apartS (show IsS117 w _ gb101 l0 t116 t117 from by repeat (first|(with_reducible first|exact HI101.out|apply IsS117.alloc|apply IsS117.drewN|apply IsS117.drew|apply IsS117.set_1|apply IsS117.set_2)|exact HI101.out)) (by (with_reducible repeat (first|apply Kd.S_alloc|apply Kd.S_drewN|apply Kd.S_drew));exact HO_14.out) (by decide)) hk (fun _ h=>h.2)) (fun _ h=>h.1));have n3_:=aM (hb);have n4_:=aM (hi);clear HO_5;clear HO_6;clear HO_14;clear HB;clear HI101;have HO_5:=n0_;have HO_6:=n1_;have HO_14:=n2_;have HB:=n3_;have HI101:=n4_;clear n0_ n1_ n2_ n3_ n4_;(try clear hb);(try clear hb2);(try clear hk);(try clear hi);have p21:0≤(0:Int):=(by omega);have q21:(0:Int)<((x6_1.length:Int):Int):=of_decide_eq_true (by first|(with_reducible assumption)|assumption);have qi21:(0<x6_1.length)=True:=eq_true (by omega);obtain ⟨go21,co21,eo21,gb21,gl21,cl21,HG21⟩:=Kd.R_form HO_6.out (by omega);(first|cases eo21|(injection eo21 with ea_ en_ ec_;(first|subst ea_|(injection ea_ with ea_;subst ea_));subst ec_;clear en_));have GB21:=aM gb21;have GG21:=aM HG21;clear gb21 gl21 HG21;obtain ⟨hx21_0,hf21_0⟩:=Kd.R_celln 0 HO_6.out (0:Int) p21 q21;(try rw [show ((0:Int)).toNat=0 from rfl] at hx21_0);(try simp only [Nat.reduceMul,Nat.zero_mul,Nat.zero_add,Nat.reduceAdd] at hx21_0);(try rw [show ((0:Int)).toNat=0 from rfl] at hf21_0);(try simp only [Nat.reduceMul,Nat.zero_mul,Nat.zero_add,Nat.reduceAdd] at hf21_0);replace p21:=eq_true p21;replace q21:=eq_true q21;obtain ⟨hy25_,hz25_⟩:=Kd.R_celln 0 HO_6.out (0:Int) (by omega) (of_decide_eq_true (by first|(with_reducible assumption)|assumption));(try simp only [Int.reduceToNat,Int.toNat_zero,Int.toNat_ofNat,Nat.reduceMul,Nat.zero_mul,Nat.zero_add] at hy25_ hz25_);(try rw [show ((0:Int)).toNat=0 from rfl] at hy25_);(try rw [show ((0:Int)).toNat=0 from rfl] at hz25_);have HP25:=Kd.R_putg HO_6.out (0:Int) (wrap64 (t118 - 1)))|((with_reducible refine gate_store (t:=3) (p:=41) rfl ?_);refine store_event (t:=3) (p:=41) (v:=?vo_w26) (w1:=(w24.setCell ⟨go21,(0:Int).toNat,none⟩ (.int .i64 (wrap64 (t118 - 1))))) ?hg ?ho ?hn ?hr ?_;(case ho=>rfl);(case hg=>rfl);(case hn=>rfl);(case hr=>first|(go_simp;done)|(go_simp;rfl));intro w26 hw;have hg:w24.grownBy w26 (some go21):=(by rw [hw];exact HP25.2);have hp_:Kd.R (Kd.int .i64) 3 w26 w.heap.size (fun _=>True) (.slice (some ⟨go21,0,none⟩) x6_1.length co22) y121:=(by rw [hw,Ny121.out];exact HP25.1);clear HP25;have n0_:=aM (Kd.S_after (v:=(.slice (some ⟨go21,0,none⟩) x6_1.length co22)) (v1:=(.slice (some ⟨go21,0,none⟩) x6_1.length co22)) (ok:=(fun _=>True)) (by (with_reducible repeat (first|apply Kd.S_alloc|apply Kd.S_drewN|apply Kd.S_drew));exact Kd.S_mono HO_5.out (fun _ hk=>⟨trivial,hk⟩)) hg (.inl rfl));have n1_:=aM (hp_);have n2_:=aM (Kd.S_after (v:=(.slice (some ⟨go21,0,none⟩) x6_1.length co22)) (v1:=(.slice (some ⟨go21,0,none⟩) x6_1.length co22)) (ok:=(fun _=>True)) (by (with_reducible repeat (first|apply Kd.S_alloc|apply Kd.S_drewN|apply Kd.S_drew));exact Kd.S_mono HO_14.out (fun _ hk=>⟨trivial,hk⟩)) hg (.inl rfl));have n3_:=aM (IsS117.grown (by repeat (first|(with_reducible first|exact HI101.out|apply IsS117.alloc|apply IsS117.drewN|apply IsS117.drew|apply IsS117.set_1|apply IsS117.set_2)|exact HI101.out)) hg (IsS117.own_ne HI101.out HO_6.out (by decide)));have n4_:=aM ((by rw [hw];exact Qd (HB.out) GB21.out:Below w.heap.size w w26));clear HO_5;clear HO_6;clear HO_14;clear HI101;clear HB;have HO_5:=n0_;have HO_6:=n1_;have HO_14:=n2_;have HI101:=n3_;have HB:=n4_;clear n0_ n1_ n2_ n3_ n4_;clear hg hw hp_))
        go_ret2
        exact ⟨_,_,by first|rfl|(simp [errW_none,errW_some] <;> rfl)|(simp [*,errW_none,errW_some] <;> rfl),by (with_reducible repeat (first|apply Kd.S_alloc|apply Kd.S_drewN|apply Kd.S_drew));exact Kd.S_mono HO_5.out (fun _ hk=>hk.2),by (with_reducible repeat (first|apply Kd.Qf|apply Kd.Qe|apply Kd.R_drew));exact HO_6.out,by repeat (first|(with_reducible first|exact HB.out|apply Qc|apply Qa|apply Qb|refine Qd ?_ (IsS117.ge HI101.out))|exact HB.out)⟩
       ·rw [if_neg c20] at H;exact absurd H (by simp)
      ·replace c18:=Bool.eq_false_iff.mpr c18;subst c18;have H1:(some (t102,x6_1))=some (r1,r2):=by rw [if_neg (show ¬ (false=true) by decide)] at H;exact H
       clear H;have H:=H1;clear H1;simp only [Option.some.injEq,Prod.mk.injEq] at H;obtain ⟨rfl,rfl⟩:=H;obtain ⟨Ao27,co27,eo27⟩:=Kd.R_slice HO_6.out;subst eo27;go_wp2_with (first|(go_at_call 120;(with_reducible refine (spec_l1Cur_one.calls gb101 l0 x102001_1 x102002_1 12 false t116 t117 w _ ?side1 ?side2 A17.out).mono ?_);(case side1=>repeat (first|(with_reducible first|exact HI101.out|apply IsS117.alloc|apply IsS117.drewN|apply IsS117.drew|apply IsS117.set_1|apply IsS117.set_2)|exact HI101.out));(case side2=>repeat (first|(with_reducible first|exact HB.out|apply Qc|apply Qa|apply Qb|refine Qd ?_ (IsS117.ge HI101.out))|exact HB.out));rintro e w28 ⟨rfl,hi,hb,hk⟩;have n0_:=aM (Kd.S_mono (Kd.S_keep (IsS117.apartS (show IsS117 w _ gb101 l0 x102001_1 x102002_1 from by repeat (first|(with_reducible first|exact HI101.out|apply IsS117.alloc|apply IsS117.drewN|apply IsS117.drew|apply IsS117.set_1|apply IsS117.set_2)|exact HI101.out)) (by (with_reducible repeat (first|apply Kd.S_alloc|apply Kd.S_drewN|apply Kd.S_drew));exact HO_5.out) (by decide)) hk (fun _ h=>h.2)) (fun _ h=>h.1));have n1_:=aM (Kd.R_mono (Kd.R_keep (IsS117.apart (show IsS117 w _ gb101 l0 x102001_1 x102002_1 from by repeat (first|(with_reducible first|exact HI101.out|apply IsS117.alloc|apply IsS117.drewN|apply IsS117.drew|apply IsS117.set_1|apply IsS117.set_2)|exact HI101.out)) (by (with_reducible repeat (first|apply Kd.Qf|apply Kd.Qe|apply Kd.R_drew));exact HO_6.out) (by decide)) hk (fun _ h=>h.2)) (fun _ h=>h.1));have n2_:=aM (Kd.S_mono (Kd.S_keep (IsS117.apartS (show IsS117 w _ gb101 l0 x102001_1 x102002_1 from by repeat (first|(with_reducible first|exact HI101.out|apply IsS117.alloc|apply IsS117.drewN|apply IsS117.drew|apply IsS117.set_1|apply IsS117.set_2)|exact HI101.out)) (by (with_reducible repeat (first|apply Kd.S_alloc|apply Kd.S_drewN|apply Kd.S_drew));exact HO_14.out) (by decide)) hk (fun _ h=>h.2)) (fun _ h=>h.1));have n3_:=aM (hb);have n4_:=aM (hi);clear HO_5;clear HO_6;clear HO_14;clear HB;clear HI101;have HO_5:=n0_;have HO_6:=n1_;have HO_14:=n2_;have HB:=n3_;have HI101:=n4_;clear n0_ n1_ n2_ n3_ n4_;(try clear hb);(try clear hb2);(try clear hk);(try clear hi)))
       go_ret2
       exact ⟨_,_,by first|rfl|(simp [errW_none,errW_some] <;> rfl)|(simp [*,errW_none,errW_some] <;> rfl),by (with_reducible repeat (first|apply Kd.S_alloc|apply Kd.S_drewN|apply Kd.S_drew));exact HO_5.out,by (with_reducible repeat (first|apply Kd.Qf|apply Kd.Qe|apply Kd.R_drew));exact HO_6.out,by repeat (first|(with_reducible first|exact HB.out|apply Qc|apply Qa|apply Qb|refine Qd ?_ (IsS117.ge HI101.out))|exact HB.out)⟩
     ·rw [if_neg c16] at H;have c16b0:decide (0<(x6_1.length:Int))=false:=decide_eq_false c16;have c16b1:decide (0<x6_1.length)=false:=decide_eq_false (by omega);clear c16;simp only [Option.some.injEq,Prod.mk.injEq] at H;obtain ⟨rfl,rfl⟩:=H;obtain ⟨Ao29,co29,eo29⟩:=Kd.R_slice HO_6.out;subst eo29;go_wp2
      go_ret2
      exact ⟨_,_,by first|rfl|(simp [errW_none,errW_some] <;> rfl)|(simp [*,errW_none,errW_some] <;> rfl),by (with_reducible repeat (first|apply Kd.S_alloc|apply Kd.S_drewN|apply Kd.S_drew));exact HO_5.out,by (with_reducible repeat (first|apply Kd.Qf|apply Kd.Qe|apply Kd.R_drew));exact HO_6.out,by repeat (first|(with_reducible first|exact HB.out|apply Qc|apply Qa|apply Qb|refine Qd ?_ (IsS117.ge HI101.out))|exact HB.out)⟩

mutual
def spec_ValueOf.j0:Nat→List (S53)→List Int→Bool→Option (Int×Bool)
  |0,_,_,_=>none
  |k+1,x0,x1,x18=>if x18=true then (some (0,false)) else (spec_ValueOf.l0 k x0 0 x1 (x1.length:Int) 0)
def spec_ValueOf.l0:Nat→List (S53)→Int→List Int→Int→Int→Option (Int×Bool)
  |0,_,_,_,_,_=>none
  |k+1,x0,x6,x19,x20,x21=>if x21<x20 then (if 0≤x21 then (if x21<(x19.length:Int) then (if x21<(x0.length:Int) then ((spec_l1In.f (rd x19 x21) 0 (((rd_T53 x0 x21).f0).length:Int)).bind fun t104=>(if t104=true then ((spec_l6Gain.f ((rd_T53 x0 x21).f0) (rd x19 x21)).bind fun t106=>(spec_ValueOf.l0 k x0 (wrap64 (x6+t106)) x19 x20 (wrap64 (x21+1)))) else (some (0,false)))) else (none)) else (none)) else (none)) else (some (x6,true))
end
def spec_ValueOf.f (k:Nat) (l0:List (S53)) (l1:List Int):Option (Int×Bool):=(spec_GoodOffers.f k l0).bind fun t101=>(if t101=true then (spec_ValueOf.j0 k l0 l1 ((l1.length:Int) != (l0.length:Int))) else (spec_ValueOf.j0 k l0 l1 true))
set_option maxHeartbeats 8000000 in
set_option maxRecDepth 100000 in
theorem spec_ValueOf.calls (k:Nat) (A0:Option Addr) (c0:Nat) (l0:List (S53)) (A1:Option Addr) (c1:Nat) (l1:List Int) (r1:Int) (r2:Bool) (w:World) (hr0:Kd.C k53 w A0 l0.length l0) (hc0:l0.length≤c0) (hr1:Kd.C (Kd.int .i64) w A1 l1.length l1) (hc1:l1.length≤c1) (h:spec_ValueOf.f k l0 l1=some (r1,r2)) :
    Calls Try.prog 52 #[.slice A0 l0.length c0,.slice A1 l1.length c1] w fun e w'=>e= .returned (.tuple #[.int .i64 r1,.bool r2])∧Below w.heap.size w w':=by
  have hu53:=Try.underlying53;have HR0:=aM hr0;have HC0:=aM hc0;clear hr0 hc0;have HR1:=aM hr1;have HC1:=aM hc1;clear hr1 hc1;have HB:=aM (Below.refl w.heap.size w);have H:((spec_GoodOffers.f k l0).bind fun t101=>(if t101=true then (spec_ValueOf.j0 k l0 l1 ((l1.length:Int) != (l0.length:Int))) else (spec_ValueOf.j0 k l0 l1 true)))=some (r1,r2):=h;clear h;have HC3:=aM H;clear H;go_enter Try.func52,Try.ntmps52
  go_upto_region 1 with (fail)
  go_cut [18] (fun v18 wc=>∃ (kq:Nat) (x18_2:Bool),v18= .bool x18_2∧Aside0 (spec_ValueOf.j0 kq l0 l1 x18_2=some (r1,r2))∧Aside0 (kq≤k)∧Aside0 (Below w.heap.size w wc))
  case first=>
   have H:=HC3.out;clear HC3;replace H:=Option.bind_eq_some_iff.mp H;obtain ⟨t101,A40,H⟩:=H;replace H:(if t101=true then (spec_ValueOf.j0 k l0 l1 ((l1.length:Int) != (l0.length:Int))) else (spec_ValueOf.j0 k l0 l1 true))=some (r1,r2):=H;have A4:=aM A40;clear A40;by_cases c5:t101=true
   ·subst c5;have H1:(spec_ValueOf.j0 k l0 l1 ((l1.length:Int) != (l0.length:Int)))=some (r1,r2):=by rw [if_pos rfl] at H;exact H
    clear H;have H:=H1;clear H1;have H':=aM H;clear H;go_wp2_with (first|((with_reducible refine Qt (f:=49) rfl ?_);refine goesL_ (some 10) rfl rfl Try.func49 (by kernel_rfl) rfl #[.slice A0 l0.length c0] rfl (by (try simp only [aD,aE,aF]);first|done|rfl|(simp only [aG,aH];rfl)) ?_;(with_reducible refine (spec_GoodOffers.calls k _ _ l0 true _ ?side1 ?side2 A4.out).mono ?_);(case side1=>repeat (first|exact (Kd.C_below HR0.out HB.out)|(with_reducible refine Kd.Ql ?_ _)|(with_reducible refine Kd.Qm ?_ _)|(with_reducible refine Kd.C_drew ?_)));(case side2=>exact HC0.out);rintro e w6 ⟨rfl,hb⟩;refine ⟨_,rfl,?_⟩;have n0_:=aM (Qg (by repeat (first|(with_reducible first|exact HB.out|apply Qc|apply Qa|apply Qb)|exact HB.out)) hb);clear HB;have HB:=n0_;clear n0_;(try clear hb);(try clear hb2);(try clear hk);(try clear hi)))
    go_meet
    case rel=>exact ⟨_,(((l1.length:Int) != (l0.length:Int))),(by first|rfl|(simp;done)|(simp [*];done)),H',⟨by first|omega|exact Nat.le_refl _⟩,⟨by repeat (first|(with_reducible first|exact HB.out|apply Qc|apply Qa|apply Qb)|exact HB.out)⟩⟩
   ·replace c5:=Bool.eq_false_iff.mpr c5;subst c5;have H1:(spec_ValueOf.j0 k l0 l1 true)=some (r1,r2):=by rw [if_neg (show ¬ (false=true) by decide)] at H;exact H
    clear H;have H:=H1;clear H1;have H':=aM H;clear H;go_wp2_with (first|((with_reducible refine Qt (f:=49) rfl ?_);refine goesL_ (some 10) rfl rfl Try.func49 (by kernel_rfl) rfl #[.slice A0 l0.length c0] rfl (by (try simp only [aD,aE,aF]);first|done|rfl|(simp only [aG,aH];rfl)) ?_;(with_reducible refine (spec_GoodOffers.calls k _ _ l0 false _ ?side1 ?side2 A4.out).mono ?_);(case side1=>repeat (first|exact (Kd.C_below HR0.out HB.out)|(with_reducible refine Kd.Ql ?_ _)|(with_reducible refine Kd.Qm ?_ _)|(with_reducible refine Kd.C_drew ?_)));(case side2=>exact HC0.out);rintro e w7 ⟨rfl,hb⟩;refine ⟨_,rfl,?_⟩;have n0_:=aM (Qg (by repeat (first|(with_reducible first|exact HB.out|apply Qc|apply Qa|apply Qb)|exact HB.out)) hb);clear HB;have HB:=n0_;clear n0_;(try clear hb);(try clear hb2);(try clear hk);(try clear hi)))
    go_meet
    case rel=>exact ⟨_,(true),(by first|rfl|(simp;done)|(simp [*];done)),H',⟨by first|omega|exact Nat.le_refl _⟩,⟨by repeat (first|(with_reducible first|exact HB.out|apply Qc|apply Qa|apply Qb)|exact HB.out)⟩⟩
  case rest=>
   clear HC3;(try clear c1);(try clear p2);(try clear c4);(try clear c5);obtain ⟨kq,x18_2,rfl,HA,HJ2,HB⟩:=hcut
   cases kq with
   |zero=>exact absurd HA.out (by simp [spec_ValueOf.j0])
   |succ kj2=>
    have H:=HA.out;clear HA;simp only [spec_ValueOf.j0] at H;by_cases c8:x18_2=true
    ·subst c8;have H1:(some (0,false))=some (r1,r2):=by rw [if_pos rfl] at H;exact H
     clear H;have H:=H1;clear H1;simp only [Option.some.injEq,Prod.mk.injEq] at H;obtain ⟨rfl,rfl⟩:=H;go_wp2
     go_ret2
     exact ⟨by first|rfl|(simp [errW_none,errW_some] <;> rfl)|(simp [*,errW_none,errW_some] <;> rfl),by repeat (first|(with_reducible first|exact HB.out|apply Qc|apply Qa|apply Qb)|exact HB.out)⟩
    ·replace c8:=Bool.eq_false_iff.mpr c8;subst c8;have H1:(spec_ValueOf.l0 kj2 l0 0 l1 (l1.length:Int) 0)=some (r1,r2):=by rw [if_neg (show ¬ (false=true) by decide)] at H;exact H
     clear H;have H:=H1;clear H1;have H':=aM H;clear H;go_wp2;go_loopg [6,21] kj2 (fun kq v6 v21 w'=>∃ (x6_2:Int) (x21_2:Int),v6= .int .i64 x6_2∧v21= .int .i64 x21_2∧Aside0 (spec_ValueOf.l0 kq l0 x6_2 l1 (l1.length:Int) x21_2=some (r1,r2))∧Aside0 (kq≤kj2)∧Aside0 (Below w.heap.size w w'))
     case atStart=>exact ⟨(0),(0),(by first|rfl|(simp;done)|(simp [*];done)),(by first|rfl|(simp;done)|(simp [*];done)),H',⟨Nat.le_refl _⟩,⟨by repeat (first|(with_reducible first|exact HB.out|apply Qc|apply Qa|apply Qb)|exact HB.out)⟩⟩
     case round=>
      clear H';(try clear c1);(try clear p2);(try clear c4);(try clear c5);(try clear c8);(try clear p2);obtain ⟨x6_2,x21_2,rfl,rfl,HA,HK2,HB⟩:=hrel
      cases gk with
      |zero=>exact absurd HA.out (by simp [spec_ValueOf.l0])
      |succ k2=>
       have H:=HA.out;clear HA;simp only [spec_ValueOf.l0] at H;by_cases c9:x21_2<(l1.length:Int)
       ·rw [if_pos c9] at H;have c9b0:decide (x21_2<(l1.length:Int))=true:=decide_eq_true c9;clear c9;by_cases c10:0≤x21_2
        ·rw [if_pos c10] at H;have c10b0:decide (0≤x21_2)=true:=decide_eq_true c10;clear c10;by_cases c11:x21_2<(l1.length:Int)
         ·rw [if_pos c11] at H;have c11b0:decide (x21_2<(l1.length:Int))=true:=decide_eq_true c11;clear c11;by_cases c12:x21_2<(l0.length:Int)
          ·rw [if_pos c12] at H;have c12b0:decide (x21_2<(l0.length:Int))=true:=decide_eq_true c12;clear c12;replace H:=Option.bind_eq_some_iff.mp H;obtain ⟨t104,A130,H⟩:=H;replace H:(if t104=true then ((spec_l6Gain.f ((rd_T53 l0 x21_2).f0) (rd l1 x21_2)).bind fun t106=>(spec_ValueOf.l0 k2 l0 (wrap64 (x6_2+t106)) l1 (l1.length:Int) (wrap64 (x21_2+1)))) else (some (0,false)))=some (r1,r2):=H;have A13:=aM A130;clear A130;by_cases c14:t104=true
           ·subst c14;have H1:((spec_l6Gain.f ((rd_T53 l0 x21_2).f0) (rd l1 x21_2)).bind fun t106=>(spec_ValueOf.l0 k2 l0 (wrap64 (x6_2+t106)) l1 (l1.length:Int) (wrap64 (x21_2+1))))=some (r1,r2):=by rw [if_pos rfl] at H;exact H
            clear H;have H:=H1;clear H1;replace H:=Option.bind_eq_some_iff.mp H;obtain ⟨t106,A150,H⟩:=H;replace H:(spec_ValueOf.l0 k2 l0 (wrap64 (x6_2+t106)) l1 (l1.length:Int) (wrap64 (x21_2+1)))=some (r1,r2):=H;have A15:=aM A150;clear A150;have H':=aM H;clear H;have p102:0≤(x21_2:Int):=of_decide_eq_true (by first|(with_reducible assumption)|assumption);have q102:x21_2<(l1.length:Int):=of_decide_eq_true (by first|(with_reducible assumption)|assumption);obtain ⟨ad102,e102,hx102_0⟩:=Kd.at_int HR1.out x21_2 p102 q102
            cases e102
            replace hx102_0:=(HB.out.cell (aI w _ hx102_0)).trans hx102_0;replace p102:=eq_true p102;replace q102:=eq_true q102;have p103:0≤(x21_2:Int):=of_decide_eq_true (by first|(with_reducible assumption)|assumption);have q103:x21_2<(l0.length:Int):=of_decide_eq_true (by first|(with_reducible assumption)|assumption);obtain ⟨ad103,A103_0,c103_0,e103,hx103_0,hl103_0,hi103_0⟩:=at_T53 HR0.out x21_2 p103 q103
            cases e103
            replace hx103_0:=(HB.out.cell (aI w _ hx103_0)).trans hx103_0;have HR103_0:=aM hi103_0;have HC103_0:=aM hl103_0;clear hi103_0 hl103_0;replace p103:=eq_true p103;replace q103:=eq_true q103;go_wp2_with (first|((with_reducible refine Qt (f:=152) rfl ?_);refine goesL_ (some 33) rfl rfl Try.func152 (by kernel_rfl) rfl #[.int .i64 (rd l1 x21_2),.int .i64 0,.int .i64 (((rd_T53 l0 x21_2).f0).length:Int)] rfl (by (try simp only [aD,aE,aF]);first|done|rfl|(simp only [aG,aH];rfl)) ?_;(with_reducible refine (spec_l1In.calls (rd l1 x21_2) 0 (((rd_T53 l0 x21_2).f0).length:Int) true _ A13.out).mono ?_);rintro e w' ⟨rfl,⟨nd,rfl⟩⟩;refine ⟨_,rfl,?_⟩;have p105:0≤(x21_2:Int):=of_decide_eq_true (by first|(with_reducible assumption)|assumption);have q105:x21_2<(l0.length:Int):=of_decide_eq_true (by first|(with_reducible assumption)|assumption);obtain ⟨ad105,A105_0,c105_0,e105,hx105_0,hl105_0,hi105_0⟩:=at_T53 HR0.out x21_2 p105 q105;obtain rfl:ad103=ad105:=(by injection e105);replace hx105_0:=(HB.out.cell (aI w _ hx105_0)).trans hx105_0;have HR105_0:=aM hi105_0;have HC105_0:=aM hl105_0;clear hi105_0 hl105_0;replace p105:=eq_true p105;replace q105:=eq_true q105;have ea_:=Option.some.inj (hx103_0.symm.trans hx105_0);injection ea_ with ea_ en_ ec_;subst ea_;subst ec_;clear en_)|((with_reducible refine Qt (f:=147) rfl ?_);refine goesL_ (some 41) rfl rfl Try.func147 (by kernel_rfl) rfl #[.agg #[.slice A103_0 ((rd_T53 l0 x21_2).f0).length c103_0],.int .i64 (rd l1 x21_2)] rfl (by (try simp only [aD,aE,aF]);first|done|rfl|(simp only [aG,aH];rfl)) ?_;(with_reducible refine (spec_l6Gain.calls _ _ ((rd_T53 l0 x21_2).f0) (rd l1 x21_2) t106 _ ?side1 ?side2 A15.out).mono ?_);(case side1=>repeat (first|exact (Kd.C_below HR105_0.out (by repeat (first|(with_reducible first|exact HB.out|apply Qc|apply Qa|apply Qb)|exact HB.out)))|(with_reducible refine Kd.Ql ?_ _)|(with_reducible refine Kd.Qm ?_ _)|(with_reducible refine Kd.C_drew ?_)));(case side2=>exact HC105_0.out);rintro e w16 ⟨rfl,hb⟩;refine ⟨_,rfl,?_⟩;have n0_:=aM (Qg (by repeat (first|(with_reducible first|exact HB.out|apply Qc|apply Qa|apply Qb)|exact HB.out)) hb);clear HB;have HB:=n0_;clear n0_;(try clear hb);(try clear hb2);(try clear hk);(try clear hi)))
            go_roundg k2
            case measure=>have:=HJ2.out;have:=HK2.out;omega
            case rel=>exact ⟨(wrap64 (x6_2+t106)),(wrap64 (x21_2+1)),(by first|rfl|(simp;done)|(simp [*];done)),(by first|rfl|(simp;done)|(simp [*];done)),H',⟨by have:=HJ2.out;have:=HK2.out;omega⟩,⟨by repeat (first|(with_reducible first|exact HB.out|apply Qc|apply Qa|apply Qb)|exact HB.out)⟩⟩
           ·replace c14:=Bool.eq_false_iff.mpr c14;subst c14;have H1:(some (0,false))=some (r1,r2):=by rw [if_neg (show ¬ (false=true) by decide)] at H;exact H
            clear H;have H:=H1;clear H1;simp only [Option.some.injEq,Prod.mk.injEq] at H;obtain ⟨rfl,rfl⟩:=H;have p102:0≤(x21_2:Int):=of_decide_eq_true (by first|(with_reducible assumption)|assumption);have q102:x21_2<(l1.length:Int):=of_decide_eq_true (by first|(with_reducible assumption)|assumption);obtain ⟨ad102,e102,hx102_0⟩:=Kd.at_int HR1.out x21_2 p102 q102
            cases e102
            replace hx102_0:=(HB.out.cell (aI w _ hx102_0)).trans hx102_0;replace p102:=eq_true p102;replace q102:=eq_true q102;have p103:0≤(x21_2:Int):=of_decide_eq_true (by first|(with_reducible assumption)|assumption);have q103:x21_2<(l0.length:Int):=of_decide_eq_true (by first|(with_reducible assumption)|assumption);obtain ⟨ad103,A103_0,c103_0,e103,hx103_0,hl103_0,hi103_0⟩:=at_T53 HR0.out x21_2 p103 q103
            cases e103
            replace hx103_0:=(HB.out.cell (aI w _ hx103_0)).trans hx103_0;have HR103_0:=aM hi103_0;have HC103_0:=aM hl103_0;clear hi103_0 hl103_0;replace p103:=eq_true p103;replace q103:=eq_true q103;go_wp2_with (first|((with_reducible refine Qt (f:=152) rfl ?_);refine goesL_ (some 33) rfl rfl Try.func152 (by kernel_rfl) rfl #[.int .i64 (rd l1 x21_2),.int .i64 0,.int .i64 (((rd_T53 l0 x21_2).f0).length:Int)] rfl (by (try simp only [aD,aE,aF]);first|done|rfl|(simp only [aG,aH];rfl)) ?_;(with_reducible refine (spec_l1In.calls (rd l1 x21_2) 0 (((rd_T53 l0 x21_2).f0).length:Int) false _ A13.out).mono ?_);rintro e w' ⟨rfl,⟨nd,rfl⟩⟩;refine ⟨_,rfl,?_⟩))
            go_ret2
            exact ⟨by first|rfl|(simp [errW_none,errW_some] <;> rfl)|(simp [*,errW_none,errW_some] <;> rfl),by repeat (first|(with_reducible first|exact HB.out|apply Qc|apply Qa|apply Qb)|exact HB.out)⟩
          ·rw [if_neg c12] at H;exact absurd H (by simp)
         ·rw [if_neg c11] at H;exact absurd H (by simp)
        ·rw [if_neg c10] at H;exact absurd H (by simp)
       ·rw [if_neg c9] at H;have c9b0:decide (x21_2<(l1.length:Int))=false:=decide_eq_false c9;clear c9;simp only [Option.some.injEq,Prod.mk.injEq] at H;obtain ⟨rfl,rfl⟩:=H;go_wp2
        go_ret2
        exact ⟨by first|rfl|(simp [errW_none,errW_some] <;> rfl)|(simp [*,errW_none,errW_some] <;> rfl),by repeat (first|(with_reducible first|exact HB.out|apply Qc|apply Qa|apply Qb)|exact HB.out)⟩

def spec_DrawGainsOf.f (l0:List Int):Option (Int×Int×Int×Int):=(spec_l1Cur_among.f l0 0 0 (([0,1,50,100,101]:List Int))).bind fun bt105=>((spec_l1Cur_among.f l0 bt105.2.1 bt105.2.2 (([0,7,100,(-1)]:List Int))).bind fun bt111=>((spec_l1Cur_pick.f l0 bt111.2.1 bt111.2.2 12).bind fun bt114=>((spec_l1Cur_pick.f l0 bt114.2.1 bt114.2.2 12).bind fun bt117=>(some (bt105.1,bt111.1,bt114.1,bt117.1)))))
set_option maxHeartbeats 8000000 in
set_option maxRecDepth 100000 in
theorem spec_DrawGainsOf.calls (A0:Option Addr) (c0:Nat) (l0:List Int) (r1:Int) (r2:Int) (r3:Int) (r4:Int) (w:World) (hr0:Kd.C (Kd.int .u8) w A0 l0.length l0) (hc0:l0.length≤c0) (h:spec_DrawGainsOf.f l0=some (r1,r2,r3,r4)) :
    Calls Try.prog 53 #[.slice A0 l0.length c0] w fun e w'=>e= .returned (.tuple #[.int .i64 r1,.int .i64 r2,.int .i64 r3,.int .i64 r4])∧Below w.heap.size w w':=by
  have hu117:=Try.underlying117;have HR0:=aM hr0;have HC0:=aM hc0;clear hr0 hc0;have HB:=aM (Below.refl w.heap.size w);have H:((spec_l1Cur_among.f l0 0 0 (([0,1,50,100,101]:List Int))).bind fun bt105=>((spec_l1Cur_among.f l0 bt105.2.1 bt105.2.2 (([0,7,100,(-1)]:List Int))).bind fun bt111=>((spec_l1Cur_pick.f l0 bt111.2.1 bt111.2.2 12).bind fun bt114=>((spec_l1Cur_pick.f l0 bt114.2.1 bt114.2.2 12).bind fun bt117=>(some (bt105.1,bt111.1,bt114.1,bt117.1))))))=some (r1,r2,r3,r4):=h;clear h;obtain ⟨y102,hy102⟩:∃ y_:List Int,y_=(([0,1,50,100,101]:List Int)):=⟨_,rfl⟩;replace H:((spec_l1Cur_among.f l0 0 0 y102).bind fun bt105=>((spec_l1Cur_among.f l0 bt105.2.1 bt105.2.2 (([0,7,100,(-1)]:List Int))).bind fun bt111=>((spec_l1Cur_pick.f l0 bt111.2.1 bt111.2.2 12).bind fun bt114=>((spec_l1Cur_pick.f l0 bt114.2.1 bt114.2.2 12).bind fun bt117=>(some (bt105.1,bt111.1,bt114.1,bt117.1))))))=some (r1,r2,r3,r4):=by first|(rw [hy102];with_reducible exact H)|(have H2_:=(Option.bind_some _ _).symm.trans H;rw [hy102];with_reducible exact H2_)|(have H2_:=(Option.bind_some _ _).symm.trans H;with_reducible exact H2_)|with_reducible exact H|(rw [hy102];exact H)|exact H
  have Ny102:=aM hy102;clear hy102;replace H:=Option.bind_eq_some_iff.mp H;obtain ⟨⟨t105,t106,t107⟩,A20,H⟩:=H;replace H:((spec_l1Cur_among.f l0 t106 t107 (([0,7,100,(-1)]:List Int))).bind fun bt111=>((spec_l1Cur_pick.f l0 bt111.2.1 bt111.2.2 12).bind fun bt114=>((spec_l1Cur_pick.f l0 bt114.2.1 bt114.2.2 12).bind fun bt117=>(some (t105,bt111.1,bt114.1,bt117.1)))))=some (r1,r2,r3,r4):=H;have A2:=aM A20;clear A20;obtain ⟨y108,hy108⟩:∃ y_:List Int,y_=(([0,7,100,(-1)]:List Int)):=⟨_,rfl⟩;replace H:((spec_l1Cur_among.f l0 t106 t107 y108).bind fun bt111=>((spec_l1Cur_pick.f l0 bt111.2.1 bt111.2.2 12).bind fun bt114=>((spec_l1Cur_pick.f l0 bt114.2.1 bt114.2.2 12).bind fun bt117=>(some (t105,bt111.1,bt114.1,bt117.1)))))=some (r1,r2,r3,r4):=by first|(rw [hy108];with_reducible exact H)|(have H2_:=(Option.bind_some _ _).symm.trans H;rw [hy108];with_reducible exact H2_)|(have H2_:=(Option.bind_some _ _).symm.trans H;with_reducible exact H2_)|with_reducible exact H|(rw [hy108];exact H)|exact H
  have Ny108:=aM hy108;clear hy108;replace H:=Option.bind_eq_some_iff.mp H;obtain ⟨⟨t111,t112,t113⟩,A30,H⟩:=H;replace H:((spec_l1Cur_pick.f l0 t112 t113 12).bind fun bt114=>((spec_l1Cur_pick.f l0 bt114.2.1 bt114.2.2 12).bind fun bt117=>(some (t105,t111,bt114.1,bt117.1))))=some (r1,r2,r3,r4):=H;have A3:=aM A30;clear A30;replace H:=Option.bind_eq_some_iff.mp H;obtain ⟨⟨t114,t115,t116⟩,A40,H⟩:=H;replace H:((spec_l1Cur_pick.f l0 t115 t116 12).bind fun bt117=>(some (t105,t111,t114,bt117.1)))=some (r1,r2,r3,r4):=H;have A4:=aM A40;clear A40;replace H:=Option.bind_eq_some_iff.mp H;obtain ⟨⟨t117,t118,t119⟩,A50,H⟩:=H;replace H:(some (t105,t111,t114,t117))=some (r1,r2,r3,r4):=H;have A5:=aM A50;clear A50;simp only [Option.some.injEq,Prod.mk.injEq] at H;obtain ⟨rfl,rfl,rfl,rfl⟩:=H;go_enter Try.func53,Try.ntmps53;go_wp2_with (first|((with_reducible refine gate_dst (N:=9) rfl ?_);refine box_event ?hg (N:=9) ?hd (cs:=#[.slice A0 l0.length c0,.int .i64 0,.int .u64 0]) (t:=117) ?hr ?_;(case hd=>rfl);(case hg=>rfl);(case hr=>first|(go_simp;done)|(go_simp;rfl));intro gb101 hg w6 hbox hb;have n0_:=aM (Qg (by repeat (first|(with_reducible first|exact HB.out|apply Qc|apply Qa|apply Qb)|exact HB.out)) hb);have n1_:=aM ((show IsS117 w w6 gb101 l0 0 0 from ⟨A0,c0,hbox,(by rw [hg];exact (Qk (by repeat (first|(with_reducible first|exact HB.out|apply Qc|apply Qa|apply Qb)|exact HB.out)))),HR0.out⟩));have n2_:=aM ((by rw [hg];exact (Qk (by repeat (first|(with_reducible first|exact HB.out|apply Qc|apply Qa|apply Qb)|exact HB.out))):w.heap.size≤gb101));have n3_:=aM ((by rw [hg];exact (Qk (by repeat (first|(with_reducible first|exact HB.out|apply Qc|apply Qa|apply Qb)|exact HB.out))):w.heap.size≤gb101));clear HB;have HB:=n0_;have HI101:=n1_;have GW101:=n2_;have GE101:=n3_;clear n0_ n1_ n2_ n3_;clear hb hbox hg)|((with_reducible refine gate_dst (N:=11) rfl ?_);refine Kd.R_lit (Kd.int .i64) _ 3 ?hg (N:=11) ?hd (xs:=([0,1,50,100,101]:List Int)) (inner:=[.int .i64 0,.int .i64 1,.int .i64 50,.int .i64 100,.int .i64 101]) (ok:=fun _=>True) (okp:=fun _=>True) ?hr ?hp (fun _ hk=>hk) trivial (Below.refl _ _) (Nat.le_refl _) (by simp) ?_;(case hd=>rfl);(case hg=>rfl);(case hr=>first|(go_simp;done)|(go_simp;rfl));(case hp=>exact (Reps.one (show Kd.M (Kd.int .i64) _ _ _ 0 [.int .i64 0] from rfl) (Reps.one (show Kd.M (Kd.int .i64) _ _ _ 1 [.int .i64 1] from rfl) (Reps.one (show Kd.M (Kd.int .i64) _ _ _ 50 [.int .i64 50] from rfl) (Reps.one (show Kd.M (Kd.int .i64) _ _ _ 100 [.int .i64 100] from rfl) (Reps.one (show Kd.M (Kd.int .i64) _ _ _ 101 [.int .i64 101] from rfl) (Reps.none _ _)))))));intro v103 w7 ho8 hb hg_ hnew_;clear hg_ hnew_;(first|rw [←Ny102.out] at ho8|(simp only [Int.reduceToNat] at ho8;rw [←Ny102.out] at ho8));have n0_:=aM (Kd.R_lower ho8 (Qk (by repeat (first|(with_reducible first|exact HB.out|apply Qc|apply Qa|apply Qb|refine Qd ?_ (IsS117.ge HI101.out))|exact HB.out))));have n1_:=aM (IsS117.below (by repeat (first|(with_reducible first|exact HI101.out|apply IsS117.alloc|apply IsS117.drewN|apply IsS117.drew|apply IsS117.set_1|apply IsS117.set_2)|exact HI101.out)) hb);have n2_:=aM (Qg (by repeat (first|(with_reducible first|exact HB.out|apply Qc|apply Qa|apply Qb|refine Qd ?_ (IsS117.ge HI101.out))|exact HB.out)) hb);clear HI101;clear HB;have HO104:=n0_;have HI101:=n1_;have HB:=n2_;clear n0_ n1_ n2_;clear hb ho8;obtain ⟨Ao9,co9,eo9⟩:=Kd.R_slice HO104.out;subst eo9)|((with_reducible refine Qt (f:=121) rfl ?_);refine goesL_ (some 12) rfl rfl Try.func121 (by kernel_rfl) rfl #[.pointer (some ⟨gb101,0,none⟩),.slice Ao9 y102.length co9] rfl (by (try simp only [aD,aE,aF]);first|done|rfl|(simp only [aG,aH];rfl)) ?_;(with_reducible refine (spec_l1Cur_among.calls gb101 l0 0 0 _ _ y102 t105 t106 t107 w _ ?side1 ?side2 ?side3 ?side4 ?side5 A2.out).mono ?_);(case side1=>repeat (first|(with_reducible first|exact HI101.out|apply IsS117.alloc|apply IsS117.drewN|apply IsS117.drew|apply IsS117.set_1|apply IsS117.set_2)|exact HI101.out));(case side2=>repeat (first|(with_reducible first|exact HB.out|apply Qc|apply Qa|apply Qb|refine Qd ?_ (IsS117.ge HI101.out))|exact HB.out));(case side3=>repeat (first|exact (Kd.Qn HO104.out).2.2|(with_reducible refine Kd.Ql ?_ _)|(with_reducible refine Kd.Qm ?_ _)|(with_reducible refine Kd.C_drew ?_)));(case side4=>exact (Kd.Qn HO104.out).2.1);(case side5=>exact far_slice (IsS117.own_ne HI101.out HO104.out (by decide)));rintro e w10 ⟨rfl,hi,hb,hk⟩;refine ⟨_,rfl,?_⟩;have n0_:=aM (Kd.R_mono (Kd.R_keep (IsS117.apart (show IsS117 w _ gb101 l0 0 0 from by repeat (first|(with_reducible first|exact HI101.out|apply IsS117.alloc|apply IsS117.drewN|apply IsS117.drew|apply IsS117.set_1|apply IsS117.set_2)|exact HI101.out)) (by (with_reducible repeat (first|apply Kd.Qf|apply Kd.Qe|apply Kd.R_drew));exact HO104.out) (by decide)) hk (fun _ h=>h.2)) (fun _ h=>h.1));have n1_:=aM (hb);have n2_:=aM (hi);clear HO104;clear HB;clear HI101;have HO104:=n0_;have HB:=n1_;have HI101:=n2_;clear n0_ n1_ n2_;(try clear hb);(try clear hb2);(try clear hk);(try clear hi))|((with_reducible refine gate_dst (N:=14) rfl ?_);refine Kd.R_lit (Kd.int .i64) _ 3 ?hg (N:=14) ?hd (xs:=([0,7,100,(-1)]:List Int)) (inner:=[.int .i64 0,.int .i64 7,.int .i64 100,.int .i64 (-1)]) (ok:=fun _=>True) (okp:=fun _=>True) ?hr ?hp (fun _ hk=>hk) trivial (Below.refl _ _) (Nat.le_refl _) (by simp) ?_;(case hd=>rfl);(case hg=>rfl);(case hr=>first|(go_simp;done)|(go_simp;rfl));(case hp=>exact (Reps.one (show Kd.M (Kd.int .i64) _ _ _ 0 [.int .i64 0] from rfl) (Reps.one (show Kd.M (Kd.int .i64) _ _ _ 7 [.int .i64 7] from rfl) (Reps.one (show Kd.M (Kd.int .i64) _ _ _ 100 [.int .i64 100] from rfl) (Reps.one (show Kd.M (Kd.int .i64) _ _ _ (-1) [.int .i64 (-1)] from rfl) (Reps.none _ _))))));intro v109 w11 ho12 hb hg_ hnew_;clear hg_ hnew_;(first|rw [←Ny108.out] at ho12|(simp only [Int.reduceToNat] at ho12;rw [←Ny108.out] at ho12));have n0_:=aM (Kd.R_elder' (by (with_reducible repeat (first|apply Kd.Qf|apply Kd.Qe|apply Kd.R_drew));exact HO104.out) (Kd.R_base ho12) hb);have n1_:=aM (Kd.R_lower (Kd.R_new' ho12 (Kd.R_lt (by (with_reducible repeat (first|apply Kd.Qf|apply Kd.Qe|apply Kd.R_drew));exact HO104.out))) (Qk (by repeat (first|(with_reducible first|exact HB.out|apply Qc|apply Qa|apply Qb|refine Qd ?_ (IsS117.ge HI101.out))|exact HB.out))));have n2_:=aM (IsS117.below (by repeat (first|(with_reducible first|exact HI101.out|apply IsS117.alloc|apply IsS117.drewN|apply IsS117.drew|apply IsS117.set_1|apply IsS117.set_2)|exact HI101.out)) hb);have n3_:=aM (Qg (by repeat (first|(with_reducible first|exact HB.out|apply Qc|apply Qa|apply Qb|refine Qd ?_ (IsS117.ge HI101.out))|exact HB.out)) hb);clear HO104;clear HI101;clear HB;have HO104:=n0_;have HO110:=n1_;have HI101:=n2_;have HB:=n3_;clear n0_ n1_ n2_ n3_;clear hb ho12;obtain ⟨Ao13,co13,eo13⟩:=Kd.R_slice HO110.out;subst eo13)|((with_reducible refine Qt (f:=121) rfl ?_);refine goesL_ (some 15) rfl rfl Try.func121 (by kernel_rfl) rfl #[.pointer (some ⟨gb101,0,none⟩),.slice Ao13 y108.length co13] rfl (by (try simp only [aD,aE,aF]);first|done|rfl|(simp only [aG,aH];rfl)) ?_;(with_reducible refine (spec_l1Cur_among.calls gb101 l0 t106 t107 _ _ y108 t111 t112 t113 w _ ?side1 ?side2 ?side3 ?side4 ?side5 A3.out).mono ?_);(case side1=>repeat (first|(with_reducible first|exact HI101.out|apply IsS117.alloc|apply IsS117.drewN|apply IsS117.drew|apply IsS117.set_1|apply IsS117.set_2)|exact HI101.out));(case side2=>repeat (first|(with_reducible first|exact HB.out|apply Qc|apply Qa|apply Qb|refine Qd ?_ (IsS117.ge HI101.out))|exact HB.out));(case side3=>repeat (first|exact (Kd.Qn HO110.out).2.2|(with_reducible refine Kd.Ql ?_ _)|(with_reducible refine Kd.Qm ?_ _)|(with_reducible refine Kd.C_drew ?_)));(case side4=>exact (Kd.Qn HO110.out).2.1);(case side5=>exact far_slice (IsS117.own_ne HI101.out HO110.out (by decide)));rintro e w14 ⟨rfl,hi,hb,hk⟩;refine ⟨_,rfl,?_⟩;have n0_:=aM (Kd.R_mono (Kd.R_keep (IsS117.apart (show IsS117 w _ gb101 l0 t106 t107 from by repeat (first|(with_reducible first|exact HI101.out|apply IsS117.alloc|apply IsS117.drewN|apply IsS117.drew|apply IsS117.set_1|apply IsS117.set_2)|exact HI101.out)) (by (with_reducible repeat (first|apply Kd.Qf|apply Kd.Qe|apply Kd.R_drew));exact HO104.out) (by decide)) hk (fun _ h=>h.2)) (fun _ h=>h.1));have n1_:=aM (Kd.R_mono (Kd.R_keep (IsS117.apart (show IsS117 w _ gb101 l0 t106 t107 from by repeat (first|(with_reducible first|exact HI101.out|apply IsS117.alloc|apply IsS117.drewN|apply IsS117.drew|apply IsS117.set_1|apply IsS117.set_2)|exact HI101.out)) (by (with_reducible repeat (first|apply Kd.Qf|apply Kd.Qe|apply Kd.R_drew));exact HO110.out) (by decide)) hk (fun _ h=>h.2)) (fun _ h=>h.1));have n2_:=aM (hb);have n3_:=aM (hi);clear HO104;clear HO110;clear HB;clear HI101;have HO104:=n0_;have HO110:=n1_;have HB:=n2_;have HI101:=n3_;clear n0_ n1_ n2_ n3_;(try clear hb);(try clear hb2);(try clear hk);(try clear hi))|((with_reducible refine Qt (f:=122) rfl ?_);refine goesL_ (some 17) rfl rfl Try.func122 (by kernel_rfl) rfl #[.pointer (some ⟨gb101,0,none⟩),.int .i64 12] rfl (by (try simp only [aD,aE,aF]);first|done|rfl|(simp only [aG,aH];rfl)) ?_;(with_reducible refine (spec_l1Cur_pick.calls gb101 l0 t112 t113 12 t114 t115 t116 w _ ?side1 ?side2 A4.out).mono ?_);(case side1=>repeat (first|(with_reducible first|exact HI101.out|apply IsS117.alloc|apply IsS117.drewN|apply IsS117.drew|apply IsS117.set_1|apply IsS117.set_2)|exact HI101.out));(case side2=>repeat (first|(with_reducible first|exact HB.out|apply Qc|apply Qa|apply Qb|refine Qd ?_ (IsS117.ge HI101.out))|exact HB.out));rintro e w15 ⟨rfl,hi,hb,hk⟩;refine ⟨_,rfl,?_⟩;have n0_:=aM (Kd.R_mono (Kd.R_keep (IsS117.apart (show IsS117 w _ gb101 l0 t112 t113 from by repeat (first|(with_reducible first|exact HI101.out|apply IsS117.alloc|apply IsS117.drewN|apply IsS117.drew|apply IsS117.set_1|apply IsS117.set_2)|exact HI101.out)) (by (with_reducible repeat (first|apply Kd.Qf|apply Kd.Qe|apply Kd.R_drew));exact HO104.out) (by decide)) hk (fun _ h=>h.2)) (fun _ h=>h.1));have n1_:=aM (Kd.R_mono (Kd.R_keep (IsS117.apart (show IsS117 w _ gb101 l0 t112 t113 from by repeat (first|(with_reducible first|exact HI101.out|apply IsS117.alloc|apply IsS117.drewN|apply IsS117.drew|apply IsS117.set_1|apply IsS117.set_2)|exact HI101.out)) (by (with_reducible repeat (first|apply Kd.Qf|apply Kd.Qe|apply Kd.R_drew));exact HO110.out) (by decide)) hk (fun _ h=>h.2)) (fun _ h=>h.1));have n2_:=aM (hb);have n3_:=aM (hi);clear HO104;clear HO110;clear HB;clear HI101;have HO104:=n0_;have HO110:=n1_;have HB:=n2_;have HI101:=n3_;clear n0_ n1_ n2_ n3_;(try clear hb);(try clear hb2);(try clear hk);(try clear hi))|((with_reducible refine Qt (f:=122) rfl ?_);refine goesL_ (some 19) rfl rfl Try.func122 (by kernel_rfl) rfl #[.pointer (some ⟨gb101,0,none⟩),.int .i64 12] rfl (by (try simp only [aD,aE,aF]);first|done|rfl|(simp only [aG,aH];rfl)) ?_;(with_reducible refine (spec_l1Cur_pick.calls gb101 l0 t115 t116 12 t117 t118 t119 w _ ?side1 ?side2 A5.out).mono ?_);(case side1=>repeat (first|(with_reducible first|exact HI101.out|apply IsS117.alloc|apply IsS117.drewN|apply IsS117.drew|apply IsS117.set_1|apply IsS117.set_2)|exact HI101.out));(case side2=>repeat (first|(with_reducible first|exact HB.out|apply Qc|apply Qa|apply Qb|refine Qd ?_ (IsS117.ge HI101.out))|exact HB.out));rintro e w16 ⟨rfl,hi,hb,hk⟩;refine ⟨_,rfl,?_⟩;have n0_:=aM (Kd.R_mono (Kd.R_keep (IsS117.apart (show IsS117 w _ gb101 l0 t115 t116 from by repeat (first|(with_reducible first|exact HI101.out|apply IsS117.alloc|apply IsS117.drewN|apply IsS117.drew|apply IsS117.set_1|apply IsS117.set_2)|exact HI101.out)) (by (with_reducible repeat (first|apply Kd.Qf|apply Kd.Qe|apply Kd.R_drew));exact HO104.out) (by decide)) hk (fun _ h=>h.2)) (fun _ h=>h.1));have n1_:=aM (Kd.R_mono (Kd.R_keep (IsS117.apart (show IsS117 w _ gb101 l0 t115 t116 from by repeat (first|(with_reducible first|exact HI101.out|apply IsS117.alloc|apply IsS117.drewN|apply IsS117.drew|apply IsS117.set_1|apply IsS117.set_2)|exact HI101.out)) (by (with_reducible repeat (first|apply Kd.Qf|apply Kd.Qe|apply Kd.R_drew));exact HO110.out) (by decide)) hk (fun _ h=>h.2)) (fun _ h=>h.1));have n2_:=aM (hb);have n3_:=aM (hi);clear HO104;clear HO110;clear HB;clear HI101;have HO104:=n0_;have HO110:=n1_;have HB:=n2_;have HI101:=n3_;clear n0_ n1_ n2_ n3_;(try clear hb);(try clear hb2);(try clear hk);(try clear hi)))
  refine bodyPost_ret (results_list (rs:=[.tmp 2,.tmp 3,.tmp 4,.tmp 5]) rfl (by simp) (.tmp (.tmp (.tmp (.tmp .nil))))) rfl ?_;exact ⟨by first|rfl|(simp [errW_none,errW_some] <;> rfl)|(simp [*,errW_none,errW_some] <;> rfl),by repeat (first|(with_reducible first|exact HB.out|apply Qc|apply Qa|apply Qb|refine Qd ?_ (IsS117.ge HI101.out))|exact HB.out)⟩

mutual
def impl_GainsOf.j0:Nat→Int→Int→Int→Int→Bool→Option (List Int×Bool)
  |0,_,_,_,_,_=>none
  |k+1,x0,x1,x2,x3,x23=>if x23=true then (some (([]:List Int),false)) else (impl_GainsOf.l0 k x0 x1 x2 x3 1 ([]:List Int))
def impl_GainsOf.l0:Nat→Int→Int→Int→Int→Int→List Int→Option (List Int×Bool)
  |0,_,_,_,_,_,_=>none
  |k+1,x0,x1,x2,x3,x11,x111000=>if x11≤6 then (if x11=0 then (none) else (if x111000.length<17592186044416 then (impl_GainsOf.l0 k x0 x1 x2 x3 (wrap64 (x11+1)) (x111000 ++ [wrap64 ((wrap64 (x2 * x0)) - (wrap64 (Int.tdiv (wrap64 ((wrap64 ((wrap64 (x3 * x1))+x11)) - 1)) x11)))])) else (none))) else ((impl_isOffer.f k x111000).bind fun t114=>(if t114=true then (some (x111000,true)) else (some (([]:List Int),false))))
end
def impl_GainsOf.f (k:Nat) (a0:Int) (a1:Int) (a2:Int) (a3:Int):Option (List Int×Bool):=(impl_allWithin.f k (([a0,a1]:List Int)) 0 100).bind fun t105=>(if t105=true then ((impl_allWithin.f k (([a2,a3]:List Int)) 0 10).bind fun t109=>(impl_GainsOf.j0 k a0 a1 a2 a3 (!t109))) else (impl_GainsOf.j0 k a0 a1 a2 a3 true))
def impl_GainsOf.T7:Bool×List (List Nat×List Nat):=(true,[([],[]),([0],[0]),([],[]),([],[]),([2,3],[2,3]),([],[]),([],[]),([5,6],[5,6]),([],[]),([7,8],[7,8]),([9],[9]),([],[]),([10,11],[10,11]),([4,12],[4,12]),([13],[13]),([1,14],[1,14]),([0,1,2,3,4,5,6,7,8,9,10,11,12,13,14,15],[]),([16,15,15,0,1,2,3,4,5,6,7,8,9,10,11,12,13,14,15],[15,16])])
def impl_GainsOf.B7:List Nat:=[0,1,0,0,12,0,0,96,0,480,992,0,4064,8188,16380,32767,65535,131071]
theorem impl_GainsOf.tab7:rtab .any (opsOf Try.f54 7)=impl_GainsOf.T7:=by kernel_rfl
theorem impl_GainsOf.bits7:waitsOk impl_GainsOf.T7.2 impl_GainsOf.B7=true:=by kernel_rfl
set_option maxHeartbeats 8000000 in
set_option maxRecDepth 100000 in
theorem impl_GainsOf.calls (k:Nat) (a0:Int) (a1:Int) (a2:Int) (a3:Int) (r1:List Int) (r2:Bool) (w:World) (h:impl_GainsOf.f k a0 a1 a2 a3=some (r1,r2)) :
    Calls Try.prog 54 #[.int .i64 a0,.int .i64 a1,.int .i64 a2,.int .i64 a3] w fun e w'=>∃ v0_:Value,e= .returned (.tuple #[.agg #[v0_],.bool r2])∧Kd.R (Kd.int .i64) 3 w' w.heap.size (fun _=>True) v0_ r1∧Below w.heap.size w w':=by
  have hu53:=Try.underlying53;have HB:=aM (Below.refl w.heap.size w);have H:((impl_allWithin.f k (([a0,a1]:List Int)) 0 100).bind fun t105=>(if t105=true then ((impl_allWithin.f k (([a2,a3]:List Int)) 0 10).bind fun t109=>(impl_GainsOf.j0 k a0 a1 a2 a3 (!t109))) else (impl_GainsOf.j0 k a0 a1 a2 a3 true)))=some (r1,r2):=h;clear h;have HC5:=aM H;clear H;go_enter Try.func54,Try.ntmps54
  go_upto_region 1 with (first|((with_reducible refine gate_dst (N:=8) rfl ?_);(try (refine gate_guard (by rfl) ?_;dsimp only));refine box_event ?hg (N:=8) ?hd (cs:=#[.slice none 0 0]) (t:=53) ?hr ?_;(case hd=>rfl);(case hg=>rfl);(case hr=>first|(go_simp;done)|(go_simp;rfl));intro gb101 hg w6 hbox hb;have n0_:=aM (Qg (by repeat (first|(with_reducible first|exact HB.out|apply Qc|apply Qa|apply Qb)|exact HB.out)) hb);have n1_:=aM (hbox);have n2_:=aM ((by rw [hg];exact (Qk (by repeat (first|(with_reducible first|exact HB.out|apply Qc|apply Qa|apply Qb)|exact HB.out))):w.heap.size≤gb101));have n3_:=aM ((by rw [hg];exact (Qk (by repeat (first|(with_reducible first|exact HB.out|apply Qc|apply Qa|apply Qb)|exact HB.out))):w.heap.size≤gb101));clear HB;have HB:=n0_;have BK101:=n1_;have GW101:=n2_;have GE101:=n3_;clear n0_ n1_ n2_ n3_;clear hb hbox hg))
  (try simp only [Act.put,aA,aB,aC])
  go_cut [23] (fun v23 wc=>∃ (kq:Nat) (x23_4:Bool),v23= .bool x23_4∧Aside0 (impl_GainsOf.j0 kq a0 a1 a2 a3 x23_4=some (r1,r2))∧Aside0 (kq≤k)∧Aside0 (wc.heap[gb101]? = some (.cells #[(.slice none 0 0)] 53 (0,0)))∧Aside0 (Below w.heap.size w wc))
  case first=>
   have H:=HC5.out;clear HC5;obtain ⟨y102,hy102⟩:∃ y_:List Int,y_=(([a0,a1]:List Int)):=⟨_,rfl⟩;replace H:((impl_allWithin.f k y102 0 100).bind fun t105=>(if t105=true then ((impl_allWithin.f k (([a2,a3]:List Int)) 0 10).bind fun t109=>(impl_GainsOf.j0 k a0 a1 a2 a3 (!t109))) else (impl_GainsOf.j0 k a0 a1 a2 a3 true)))=some (r1,r2):=by first|(rw [hy102];with_reducible exact H)|(have H2_:=(Option.bind_some _ _).symm.trans H;rw [hy102];with_reducible exact H2_)|(have H2_:=(Option.bind_some _ _).symm.trans H;with_reducible exact H2_)|with_reducible exact H|(rw [hy102];exact H)|exact H
   have Ny102:=aM hy102;clear hy102;replace H:=Option.bind_eq_some_iff.mp H;obtain ⟨t105,A70,H⟩:=H;replace H:(if t105=true then ((impl_allWithin.f k (([a2,a3]:List Int)) 0 10).bind fun t109=>(impl_GainsOf.j0 k a0 a1 a2 a3 (!t109))) else (impl_GainsOf.j0 k a0 a1 a2 a3 true))=some (r1,r2):=H;have A7:=aM A70;clear A70;by_cases c8:t105=true
   ·subst c8;have H1:((impl_allWithin.f k (([a2,a3]:List Int)) 0 10).bind fun t109=>(impl_GainsOf.j0 k a0 a1 a2 a3 (!t109)))=some (r1,r2):=by rw [if_pos rfl] at H;exact H
    clear H;have H:=H1;clear H1;obtain ⟨y106,hy106⟩:∃ y_:List Int,y_=(([a2,a3]:List Int)):=⟨_,rfl⟩;replace H:((impl_allWithin.f k y106 0 10).bind fun t109=>(impl_GainsOf.j0 k a0 a1 a2 a3 (!t109)))=some (r1,r2):=by first|(rw [hy106];with_reducible exact H)|(have H2_:=(Option.bind_some _ _).symm.trans H;rw [hy106];with_reducible exact H2_)|(have H2_:=(Option.bind_some _ _).symm.trans H;with_reducible exact H2_)|with_reducible exact H|(rw [hy106];exact H)|exact H
    have Ny106:=aM hy106;clear hy106;replace H:=Option.bind_eq_some_iff.mp H;obtain ⟨t109,A90,H⟩:=H;replace H:(impl_GainsOf.j0 k a0 a1 a2 a3 (!t109))=some (r1,r2):=H;have A9:=aM A90;clear A90;have H':=aM H;clear H;go_wp2_with (first|((with_reducible refine gate_dst (N:=14) rfl ?_);(try (refine gate_guard (by rfl) ?_;dsimp only));refine Kd.R_lit (Kd.int .i64) _ 3 ?hg (N:=14) ?hd (xs:=([a0,a1]:List Int)) (inner:=[.int .i64 a0,.int .i64 a1]) (ok:=fun _=>True) (okp:=fun _=>True) ?hr ?hp (fun _ hk=>hk) trivial (Below.refl _ _) (Nat.le_refl _) (by simp) ?_;(case hd=>rfl);(case hg=>rfl);(case hr=>first|(go_simp;done)|(go_simp;rfl));(case hp=>exact (Reps.one (show Kd.M (Kd.int .i64) _ _ _ a0 [.int .i64 a0] from rfl) (Reps.one (show Kd.M (Kd.int .i64) _ _ _ a1 [.int .i64 a1] from rfl) (Reps.none _ _))));intro v103 w10 ho11 hb hg_ hnew_;clear hg_ hnew_;(first|rw [←Ny102.out] at ho11|(simp only [Int.reduceToNat] at ho11;rw [←Ny102.out] at ho11));have n0_:=aM (Kd.R_lower ho11 (Qk (by repeat (first|(with_reducible first|exact HB.out|apply Qc|apply Qa|apply Qb|refine Qd ?_ GE101.out)|exact HB.out))));have n1_:=aM (Qz (g:=gb101) (o:= .cells #[.slice none 0 0] 53 (0,0)) (by (with_reducible repeat (first|apply Qi|apply Qj|apply Qh));exact BK101.out) hb);have n2_:=aM (Qg (by repeat (first|(with_reducible first|exact HB.out|apply Qc|apply Qa|apply Qb|refine Qd ?_ GE101.out)|exact HB.out)) hb);clear BK101;clear HB;have HO104:=n0_;have BK101:=n1_;have HB:=n2_;clear n0_ n1_ n2_;clear hb ho11;obtain ⟨Ao12,co12,eo12⟩:=Kd.R_slice HO104.out;subst eo12)|((with_reducible refine Qt (f:=123) rfl ?_);refine goesL_ (some 15) rfl rfl Try.func123 (by kernel_rfl) rfl #[.slice Ao12 y102.length co12,.int .i64 0,.int .i64 100] rfl (by (try simp only [aD,aE,aF]);first|done|rfl|(simp only [aG,aH];rfl)) ?_;(with_reducible refine (impl_allWithin.calls k _ _ y102 0 100 true _ ?side1 ?side2 A7.out).mono ?_);(case side1=>repeat (first|exact (Kd.Qn HO104.out).2.2|(with_reducible refine Kd.Ql ?_ _)|(with_reducible refine Kd.Qm ?_ _)|(with_reducible refine Kd.C_drew ?_)));(case side2=>exact (Kd.Qn HO104.out).2.1);rintro e w13 ⟨rfl,hb⟩;refine ⟨_,rfl,?_⟩;have n0_:=aM (Kd.Qr (by (with_reducible repeat (first|apply Kd.Qf|apply Kd.Qe|apply Kd.R_drew));exact HO104.out) hb);have n1_:=aM (Qz (g:=gb101) (o:= .cells #[.slice none 0 0] 53 (0,0)) (by (with_reducible repeat (first|apply Qi|apply Qj|apply Qh));exact BK101.out) hb);have n2_:=aM (Qg (by repeat (first|(with_reducible first|exact HB.out|apply Qc|apply Qa|apply Qb|refine Qd ?_ GE101.out)|exact HB.out)) hb);clear HO104;clear BK101;clear HB;have HO104:=n0_;have BK101:=n1_;have HB:=n2_;clear n0_ n1_ n2_;(try clear hb);(try clear hb2);(try clear hk);(try clear hi))|((with_reducible refine gate_dst (N:=20) rfl ?_);(try (refine gate_guard (by rfl) ?_;dsimp only));refine Kd.R_lit (Kd.int .i64) _ 3 ?hg (N:=20) ?hd (xs:=([a2,a3]:List Int)) (inner:=[.int .i64 a2,.int .i64 a3]) (ok:=fun _=>True) (okp:=fun _=>True) ?hr ?hp (fun _ hk=>hk) trivial (Below.refl _ _) (Nat.le_refl _) (by simp) ?_;(case hd=>rfl);(case hg=>rfl);(case hr=>first|(go_simp;done)|(go_simp;rfl));(case hp=>exact (Reps.one (show Kd.M (Kd.int .i64) _ _ _ a2 [.int .i64 a2] from rfl) (Reps.one (show Kd.M (Kd.int .i64) _ _ _ a3 [.int .i64 a3] from rfl) (Reps.none _ _))));intro v107 w14 ho15 hb hg_ hnew_;clear hg_ hnew_;(first|rw [←Ny106.out] at ho15|(simp only [Int.reduceToNat] at ho15;rw [←Ny106.out] at ho15));have n0_:=aM (Kd.R_elder' (by (with_reducible repeat (first|apply Kd.Qf|apply Kd.Qe|apply Kd.R_drew));exact HO104.out) (Kd.R_base ho15) hb);have n1_:=aM (Kd.R_lower (Kd.R_new' ho15 (Kd.R_lt (by (with_reducible repeat (first|apply Kd.Qf|apply Kd.Qe|apply Kd.R_drew));exact HO104.out))) (Qk (by repeat (first|(with_reducible first|exact HB.out|apply Qc|apply Qa|apply Qb|refine Qd ?_ GE101.out)|exact HB.out))));have n2_:=aM (Qz (g:=gb101) (o:= .cells #[.slice none 0 0] 53 (0,0)) (by (with_reducible repeat (first|apply Qi|apply Qj|apply Qh));exact BK101.out) hb);have n3_:=aM (Qg (by repeat (first|(with_reducible first|exact HB.out|apply Qc|apply Qa|apply Qb|refine Qd ?_ GE101.out)|exact HB.out)) hb);clear HO104;clear BK101;clear HB;have HO104:=n0_;have HO108:=n1_;have BK101:=n2_;have HB:=n3_;clear n0_ n1_ n2_ n3_;clear hb ho15;obtain ⟨Ao16,co16,eo16⟩:=Kd.R_slice HO108.out;subst eo16)|(go_at_call 123;(with_reducible refine (impl_allWithin.calls k _ _ y106 0 10 t109 _ ?side1 ?side2 A9.out).mono ?_);(case side1=>repeat (first|exact (Kd.Qn HO108.out).2.2|(with_reducible refine Kd.Ql ?_ _)|(with_reducible refine Kd.Qm ?_ _)|(with_reducible refine Kd.C_drew ?_)));(case side2=>exact (Kd.Qn HO108.out).2.1);rintro e w17 ⟨rfl,hb⟩;have n0_:=aM (Kd.Qr (by (with_reducible repeat (first|apply Kd.Qf|apply Kd.Qe|apply Kd.R_drew));exact HO104.out) hb);have n1_:=aM (Kd.Qr (by (with_reducible repeat (first|apply Kd.Qf|apply Kd.Qe|apply Kd.R_drew));exact HO108.out) hb);have n2_:=aM (Qz (g:=gb101) (o:= .cells #[.slice none 0 0] 53 (0,0)) (by (with_reducible repeat (first|apply Qi|apply Qj|apply Qh));exact BK101.out) hb);have n3_:=aM (Qg (by repeat (first|(with_reducible first|exact HB.out|apply Qc|apply Qa|apply Qb|refine Qd ?_ GE101.out)|exact HB.out)) hb);clear HO104;clear HO108;clear BK101;clear HB;have HO104:=n0_;have HO108:=n1_;have BK101:=n2_;have HB:=n3_;clear n0_ n1_ n2_ n3_;(try clear hb);(try clear hb2);(try clear hk);(try clear hi)))
    go_meet
    case rel=>exact ⟨_,(!t109),(by first|rfl|(simp;done)|(simp [*];done)),H',⟨by first|omega|exact Nat.le_refl _⟩,⟨by (with_reducible repeat (first|apply Qi|apply Qj|apply Qh));exact BK101.out⟩,⟨by repeat (first|(with_reducible first|exact HB.out|apply Qc|apply Qa|apply Qb|refine Qd ?_ GE101.out)|exact HB.out)⟩⟩
   ·replace c8:=Bool.eq_false_iff.mpr c8;subst c8;have H1:(impl_GainsOf.j0 k a0 a1 a2 a3 true)=some (r1,r2):=by rw [if_neg (show ¬ (false=true) by decide)] at H;exact H
    clear H;have H:=H1;clear H1;have H':=aM H;clear H;go_wp2_with (first|((with_reducible refine gate_dst (N:=14) rfl ?_);(try (refine gate_guard (by rfl) ?_;dsimp only));refine Kd.R_lit (Kd.int .i64) _ 3 ?hg (N:=14) ?hd (xs:=([a0,a1]:List Int)) (inner:=[.int .i64 a0,.int .i64 a1]) (ok:=fun _=>True) (okp:=fun _=>True) ?hr ?hp (fun _ hk=>hk) trivial (Below.refl _ _) (Nat.le_refl _) (by simp) ?_;(case hd=>rfl);(case hg=>rfl);(case hr=>first|(go_simp;done)|(go_simp;rfl));(case hp=>exact (Reps.one (show Kd.M (Kd.int .i64) _ _ _ a0 [.int .i64 a0] from rfl) (Reps.one (show Kd.M (Kd.int .i64) _ _ _ a1 [.int .i64 a1] from rfl) (Reps.none _ _))));intro v103 w18 ho19 hb hg_ hnew_;clear hg_ hnew_;(first|rw [←Ny102.out] at ho19|(simp only [Int.reduceToNat] at ho19;rw [←Ny102.out] at ho19));have n0_:=aM (Kd.R_lower ho19 (Qk (by repeat (first|(with_reducible first|exact HB.out|apply Qc|apply Qa|apply Qb|refine Qd ?_ GE101.out)|exact HB.out))));have n1_:=aM (Qz (g:=gb101) (o:= .cells #[.slice none 0 0] 53 (0,0)) (by (with_reducible repeat (first|apply Qi|apply Qj|apply Qh));exact BK101.out) hb);have n2_:=aM (Qg (by repeat (first|(with_reducible first|exact HB.out|apply Qc|apply Qa|apply Qb|refine Qd ?_ GE101.out)|exact HB.out)) hb);clear BK101;clear HB;have HO104:=n0_;have BK101:=n1_;have HB:=n2_;clear n0_ n1_ n2_;clear hb ho19;obtain ⟨Ao20,co20,eo20⟩:=Kd.R_slice HO104.out;subst eo20)|((with_reducible refine Qt (f:=123) rfl ?_);refine goesL_ (some 15) rfl rfl Try.func123 (by kernel_rfl) rfl #[.slice Ao20 y102.length co20,.int .i64 0,.int .i64 100] rfl (by (try simp only [aD,aE,aF]);first|done|rfl|(simp only [aG,aH];rfl)) ?_;(with_reducible refine (impl_allWithin.calls k _ _ y102 0 100 false _ ?side1 ?side2 A7.out).mono ?_);(case side1=>repeat (first|exact (Kd.Qn HO104.out).2.2|(with_reducible refine Kd.Ql ?_ _)|(with_reducible refine Kd.Qm ?_ _)|(with_reducible refine Kd.C_drew ?_)));(case side2=>exact (Kd.Qn HO104.out).2.1);rintro e w21 ⟨rfl,hb⟩;refine ⟨_,rfl,?_⟩;have n0_:=aM (Kd.Qr (by (with_reducible repeat (first|apply Kd.Qf|apply Kd.Qe|apply Kd.R_drew));exact HO104.out) hb);have n1_:=aM (Qz (g:=gb101) (o:= .cells #[.slice none 0 0] 53 (0,0)) (by (with_reducible repeat (first|apply Qi|apply Qj|apply Qh));exact BK101.out) hb);have n2_:=aM (Qg (by repeat (first|(with_reducible first|exact HB.out|apply Qc|apply Qa|apply Qb|refine Qd ?_ GE101.out)|exact HB.out)) hb);clear HO104;clear BK101;clear HB;have HO104:=n0_;have BK101:=n1_;have HB:=n2_;clear n0_ n1_ n2_;(try clear hb);(try clear hb2);(try clear hk);(try clear hi)))
    go_meet
    case rel=>exact ⟨_,(true),(by first|rfl|(simp;done)|(simp [*];done)),H',⟨by first|omega|exact Nat.le_refl _⟩,⟨by (with_reducible repeat (first|apply Qi|apply Qj|apply Qh));exact BK101.out⟩,⟨by repeat (first|(with_reducible first|exact HB.out|apply Qc|apply Qa|apply Qb|refine Qd ?_ GE101.out)|exact HB.out)⟩⟩
  case rest=>
   clear HC5;(try clear c1);(try clear p2);(try clear c5);(try clear c8);(try clear c12);obtain ⟨kq,x23_4,rfl,HA,HJ4,BK101,HB⟩:=hcut
   cases kq with
   |zero=>exact absurd HA.out (by simp [impl_GainsOf.j0])
   |succ kj4=>
    have H:=HA.out;clear HA;simp only [impl_GainsOf.j0] at H;by_cases c22:x23_4=true
    ·subst c22;have H1:(some (([]:List Int),false))=some (r1,r2):=by rw [if_pos rfl] at H;exact H
     clear H;have H:=H1;clear H1;simp only [Option.some.injEq,Prod.mk.injEq] at H;obtain ⟨rfl,rfl⟩:=H;have hcz23_0:wc.cell? ⟨gb101,0,none⟩=some (.slice none 0 0):=(Qu BK101.out 0).trans rfl;have hfz23_0:=Qs BK101.out 0;go_wp2;refine bodyPost_ret (results_ct rfl _ _ gb101 53 #[.slice none 0 0] (0,0) _ rfl (by (with_reducible repeat (first|apply Qi|apply Qj|apply Qh));refine blk_put (cs:=#[.slice none 0 0]) ?_ 0 _ rfl;(with_reducible repeat (first|apply Qi|apply Qj|apply Qh));exact BK101.out) Try.underlying53 rfl (by kernel_rfl)) rfl ?_;exact ⟨_,by first|rfl|(simp [errW_none,errW_some] <;> rfl)|(simp [*,errW_none,errW_some] <;> rfl),by first|exact Kd.R_nil _ _ _ _ _|exact Kd.N_nil _ _ _ _ _|exact Kd.V_nil _ _ _ _ _|exact Kd.Q_nil _ _ _ _ _|exact Kd.S_nil _ _ _ _ _,by repeat (first|(with_reducible first|exact HB.out|apply Qc|apply Qa|apply Qb|refine Qd ?_ GE101.out)|exact HB.out)⟩
    ·replace c22:=Bool.eq_false_iff.mpr c22;subst c22;have H1:(impl_GainsOf.l0 kj4 a0 a1 a2 a3 1 ([]:List Int))=some (r1,r2):=by rw [if_neg (show ¬ (false=true) by decide)] at H;exact H
     clear H;have H:=H1;clear H1;have H':=aM H;clear H;go_wp2_with (first|((with_reducible refine gate_dst (N:=10) rfl ?_);(try (refine gate_guard (by rfl) ?_;dsimp only));refine box_event ?hg (N:=10) ?hd (cs:=#[.slice none 0 0]) (t:=53) ?hr ?_;(case hd=>rfl);(case hg=>rfl);(case hr=>first|(go_simp;done)|(go_simp;rfl));intro gb110 hg w24 hbox hb;have n0_:=aM (Qz (g:=gb101) (o:= .cells #[.slice none 0 0] 53 (0,0)) (by (with_reducible repeat (first|apply Qi|apply Qj|apply Qh));exact BK101.out) hb);have n1_:=aM (Qg (by repeat (first|(with_reducible first|exact HB.out|apply Qc|apply Qa|apply Qb|refine Qd ?_ GE101.out)|exact HB.out)) hb);have n2_:=aM (hbox);have n3_:=aM ((by rw [hg];exact (Qk (by repeat (first|(with_reducible first|exact HB.out|apply Qc|apply Qa|apply Qb|refine Qd ?_ GE101.out)|exact HB.out))):w.heap.size≤gb110));have n4_:=aM ((by rw [hg];exact (Qk (by repeat (first|(with_reducible first|exact HB.out|apply Qc|apply Qa|apply Qb|refine Qd ?_ GE101.out)|exact HB.out))):w.heap.size≤gb110));have n5_:=aM ((by rw [hg];exact Nat.ne_of_lt (blk_lt (g:=gb101) (o:= .cells #[.slice none 0 0] 53 (0,0)) (by (with_reducible repeat (first|apply Qi|apply Qj|apply Qh));exact BK101.out)):gb101≠gb110));have n6_:=aM ((by rw [hg];exact Nat.ne_of_gt (blk_lt (g:=gb101) (o:= .cells #[.slice none 0 0] 53 (0,0)) (by (with_reducible repeat (first|apply Qi|apply Qj|apply Qh));exact BK101.out)):gb110≠gb101));clear BK101;clear HB;have BK101:=n0_;have HB:=n1_;have BK110:=n2_;have GW110:=n3_;have GE110:=n4_;have NB101_110:=n5_;have NB110_101:=n6_;clear n0_ n1_ n2_ n3_ n4_ n5_ n6_;clear hb hbox hg;have hnb25:=NB110_101.out;have hnc25:=NB101_110.out;have hcz26_0:w24.cell? ⟨gb110,0,none⟩=some (.slice none 0 0):=(Qu BK110.out 0).trans rfl;have hfz26_0:=Qs BK110.out 0))
     go_loopg [11] kj4 (fun kq v11 w'=>∃ (x11_2:Int) (x111000_2:List Int) (u111000:Value),v11= .int .i64 x11_2∧Aside0 (impl_GainsOf.l0 kq a0 a1 a2 a3 x11_2 x111000_2=some (r1,r2))∧Aside0 (kq≤kj4)∧Aside0 (Kd.R (Kd.int .i64) 3 w' w.heap.size (fun _=>True) u111000 x111000_2)∧Aside0 (w'.heap[gb101]? = some (.cells #[(.slice none 0 0)] 53 (0,0)))∧Aside0 (w'.heap[gb110]? = some (.cells #[u111000] 53 (0,0)))∧Aside0 (Below w.heap.size w w'))
     case atStart=>exact ⟨(1),(([]:List Int)),(.slice none 0 0),(by first|rfl|(simp;done)|(simp [*];done)),H',⟨Nat.le_refl _⟩,⟨by first|exact Kd.R_nil _ _ _ _ _|exact Kd.N_nil _ _ _ _ _|exact Kd.V_nil _ _ _ _ _|exact Kd.Q_nil _ _ _ _ _|exact Kd.S_nil _ _ _ _ _⟩,⟨by (with_reducible repeat (first|apply Qi|apply Qj|apply Qh));refine blk_far ?_ NB101_110.out _;(with_reducible repeat (first|apply Qi|apply Qj|apply Qh));exact BK101.out⟩,⟨by (with_reducible repeat (first|apply Qi|apply Qj|apply Qh));refine blk_put (cs:=#[.slice none 0 0]) ?_ 0 _ rfl;(with_reducible repeat (first|apply Qi|apply Qj|apply Qh));exact BK110.out⟩,⟨by repeat (first|(with_reducible first|exact HB.out|apply Qc|apply Qa|apply Qb|refine Qd ?_ GE101.out|refine Qd ?_ GE110.out)|exact HB.out)⟩⟩
     case round=>
      clear H';(try clear c1);(try clear c2);(try clear p2);(try clear c5);(try clear c8);(try clear c12);(try clear c22);(try clear c25);(try clear hcz23_0);(try clear hcz26_0);(try clear hfz23_0);(try clear hfz26_0);(try clear p2);obtain ⟨x11_2,x111000_2,u111000,rfl,HA,HK2,HO_111000,BK101,BK110,HB⟩:=hrel
      cases gk with
      |zero=>exact absurd HA.out (by simp [impl_GainsOf.l0])
      |succ k2=>
       have H:=HA.out;clear HA;simp only [impl_GainsOf.l0] at H;by_cases c27:x11_2≤6
       ·rw [if_pos c27] at H;have c27b0:decide (x11_2≤6)=true:=decide_eq_true c27;clear c27;by_cases c28:x11_2=0
        ·rw [if_pos c28] at H;exact absurd H (by simp)
        ·rw [if_neg c28] at H;have c28b0:(x11_2 == 0)=false:=beq_eq_false_iff_ne.mpr c28;have c28b1:(x11_2 != 0)=true:=bne_iff_ne.mpr c28;by_cases c29:x111000_2.length<17592186044416
         ·rw [if_pos c29] at H;have LMc29:=aM c29;clear c29;obtain ⟨y111,hy111⟩:∃ y_:List Int,y_=(x111000_2 ++ [wrap64 ((wrap64 (a2 * a0)) - (wrap64 (Int.tdiv (wrap64 ((wrap64 ((wrap64 (a3 * a1))+x11_2)) - 1)) x11_2)))]):=⟨_,rfl⟩;replace H:(impl_GainsOf.l0 k2 a0 a1 a2 a3 (wrap64 (x11_2+1)) y111)=some (r1,r2):=by first|(rw [hy111];with_reducible exact H)|(have H2_:=(Option.bind_some _ _).symm.trans H;rw [hy111];with_reducible exact H2_)|(have H2_:=(Option.bind_some _ _).symm.trans H;with_reducible exact H2_)|with_reducible exact H|(rw [hy111];exact H)|exact H
          have Ny111:=aM hy111;clear hy111;have H':=aM H;clear H
          try go_wp2
          have n0_:=aM (Kd.R_drew HO_111000.out);have n1_:=aM (Qj BK101.out);have n2_:=aM (Qj BK110.out);have n3_:=aM (Qb HB.out);clear HO_111000;clear BK101;clear BK110;clear HB;have HO_111000:=n0_;have BK101:=n1_;have BK110:=n2_;have HB:=n3_;clear n0_ n1_ n2_ n3_;refine start_ (n:=18) (S:=fun w'=>w'.cell? ⟨gb110,0,none⟩=some (u111000)) (ds:=[17]) #[false,false,false,false,false,false,false,false,false,false,false,false,false,false,false,false,false,false] (by kernel_rfl) rfl rfl ((Qu BK110.out 0).trans rfl) (fun hHeld=>?_);refine with_tabW impl_GainsOf.tab7 impl_GainsOf.bits7 (fun HT_ HW_=>?_)
          generalize wr.drew=w30 at HO_111000 BK101 BK110 HB hHeld ⊢
          refine pure_ (i:=0) (N:=some 30) (v:=?_) (a':=?_) #[true,false,false,false,false,false,false,false,false,false,false,false,false,false,false,false,false,false] rfl rfl (any_of HT_.out (by kernel_rfl)) (fun _ _ _ h=>h) (Or.inl ⟨by rfl,?_⟩) ?_ ?_
          rotate_left
          ·intro w'
           go_simp
           with_reducible rfl
          rotate_left
          ·simp only [Act.put,aA,aB,aC,i64_w,i32_w]
           rfl
          refine pure_ (i:=2) (N:=some 32) (v:=?_) (a':=?_) #[true,false,true,false,false,false,false,false,false,false,false,false,false,false,false,false,false,false] rfl rfl (any_of HT_.out (by kernel_rfl)) (fun _ _ _ h=>h) (Or.inl ⟨by rfl,?_⟩) ?_ ?_
          rotate_left
          ·intro w'
           go_simp
           with_reducible rfl
          rotate_left
          ·simp only [Act.put,aA,aB,aC,i64_w,i32_w]
           rfl
          refine pure_ (i:=3) (N:=some 33) (v:=?_) (a':=?_) #[true,false,true,true,false,false,false,false,false,false,false,false,false,false,false,false,false,false] rfl rfl (any_of HT_.out (by kernel_rfl)) (fun _ _ _ h=>h) (Or.inl ⟨by rfl,?_⟩) ?_ ?_
          rotate_left
          ·intro w'
           go_simp
           with_reducible rfl
          rotate_left
          ·simp only [Act.put,aA,aB,aC,i64_w,i32_w]
           rfl
          refine pure_ (i:=4) (N:=some 34) (v:=?_) (a':=?_) #[true,false,true,true,true,false,false,false,false,false,false,false,false,false,false,false,false,false] rfl rfl (any_of HT_.out (by kernel_rfl)) (fun _ _ _ h=>h) (Or.inl ⟨by rfl,?_⟩) ?_ ?_
          rotate_left
          ·intro w'
           go_simp
           with_reducible rfl
          rotate_left
          ·simp only [Act.put,aA,aB,aC,i64_w,i32_w]
           rfl
          refine pure_ (i:=5) (N:=some 35) (v:=?_) (a':=?_) #[true,false,true,true,true,true,false,false,false,false,false,false,false,false,false,false,false,false] rfl rfl (any_of HT_.out (by kernel_rfl)) (fun _ _ _ h=>h) (Or.inl ⟨by rfl,?_⟩) ?_ ?_
          rotate_left
          ·intro w'
           go_simp
           with_reducible rfl
          rotate_left
          ·simp only [Act.put,aA,aB,aC,i64_w,i32_w]
           rfl
          refine pure_ (i:=6) (N:=some 36) (v:=?_) (a':=?_) #[true,false,true,true,true,true,true,false,false,false,false,false,false,false,false,false,false,false] rfl rfl (any_of HT_.out (by kernel_rfl)) (fun _ _ _ h=>h) (Or.inl ⟨by rfl,?_⟩) ?_ ?_
          rotate_left
          ·intro w'
           go_simp
           with_reducible rfl
          rotate_left
          ·simp only [Act.put,aA,aB,aC,i64_w,i32_w]
           rfl
          refine pure_ (i:=7) (N:=some 37) (v:=?_) (a':=?_) #[true,false,true,true,true,true,true,true,false,false,false,false,false,false,false,false,false,false] rfl rfl (any_of HT_.out (by kernel_rfl)) (fun _ _ _ h=>h) (Or.inl ⟨by rfl,?_⟩) ?_ ?_
          rotate_left
          ·intro w'
           go_simp
           with_reducible rfl
          rotate_left
          ·simp only [Act.put,aA,aB,aC,i64_w,i32_w]
           rfl
          refine pure_ (i:=8) (N:=some 38) (v:=?_) (a':=?_) #[true,false,true,true,true,true,true,true,true,false,false,false,false,false,false,false,false,false] rfl rfl (any_of HT_.out (by kernel_rfl)) (fun _ _ _ h=>h) (Or.inl ⟨by rfl,?_⟩) ?_ ?_
          rotate_left
          ·intro w'
           go_simp
           with_reducible rfl
          rotate_left
          ·simp only [Act.put,aA,aB,aC,i64_w,i32_w]
           rfl
          refine pure_ (i:=9) (N:=some 39) (v:=?_) (a':=?_) #[true,false,true,true,true,true,true,true,true,true,false,false,false,false,false,false,false,false] rfl rfl (any_of HT_.out (by kernel_rfl)) (fun _ _ _ h=>h) (Or.inl ⟨by rfl,?_⟩) ?_ ?_
          rotate_left
          ·intro w'
           go_simp
           with_reducible rfl
          rotate_left
          ·simp only [Act.put,aA,aB,aC,i64_w,i32_w]
           rfl
          refine pure_ (i:=10) (N:=some 40) (v:=?_) (a':=?_) #[true,false,true,true,true,true,true,true,true,true,true,false,false,false,false,false,false,false] rfl rfl (any_of HT_.out (by kernel_rfl)) (fun _ _ _ h=>h) (Or.inl ⟨by rfl,?_⟩) ?_ ?_
          rotate_left
          ·intro w'
           go_simp
           with_reducible rfl
          rotate_left
          ·simp only [Act.put,aA,aB,aC,i64_w,i32_w]
           rfl
          refine pure_ (i:=11) (N:=some 41) (v:=?_) (a':=?_) #[true,false,true,true,true,true,true,true,true,true,true,true,false,false,false,false,false,false] rfl rfl (any_of HT_.out (by kernel_rfl)) (fun _ _ _ h=>h) (Or.inl ⟨by rfl,?_⟩) ?_ ?_
          rotate_left
          ·intro w'
           go_simp
           with_reducible rfl
          rotate_left
          ·simp only [Act.put,aA,aB,aC,i64_w,i32_w]
           rfl
          refine pure_ (i:=12) (N:=some 42) (v:=?_) (a':=?_) #[true,false,true,true,true,true,true,true,true,true,true,true,true,false,false,false,false,false] rfl rfl (any_of HT_.out (by kernel_rfl)) (fun _ _ _ h=>h) (Or.inl ⟨by rfl,?_⟩) ?_ ?_
          rotate_left
          ·intro w'
           go_simp
           with_reducible rfl
          rotate_left
          ·simp only [Act.put,aA,aB,aC,i64_w,i32_w]
           rfl
          refine pure_ (i:=13) (N:=some 43) (v:=?_) (a':=?_) #[true,false,true,true,true,true,true,true,true,true,true,true,true,true,false,false,false,false] rfl rfl (any_of HT_.out (by kernel_rfl)) (fun _ _ _ h=>h) (Or.inl ⟨by rfl,?_⟩) ?_ ?_
          rotate_left
          ·intro w'
           go_simp
           with_reducible rfl
          rotate_left
          ·simp only [Act.put,aA,aB,aC,i64_w,i32_w]
           rfl
          refine take_ (i:=1) (N:=some 31) (v:=?_) (a':=?_) #[true,true,true,true,true,true,true,true,true,true,true,true,true,true,false,false,false,false] rfl rfl (take_ofW HT_.out HW_.out (by kernel_rfl)) (fun _ _ _ h=>h) (Or.inl ⟨by rfl,?_⟩) hHeld ?_ ?_
          rotate_left
          ·intro w' s0
           go_simp
           with_reducible rfl
          rotate_left
          ·simp only [Act.put,aA,aB,aC,i64_w,i32_w]
           rfl
          refine one_ (i:=14) (N:=some 44) #[true,true,true,true,true,true,true,true,true,true,true,true,true,true,true,false,false,false] rfl rfl (one_of HT_.out (by kernel_rfl)) (by decide) (fun K hK=>?_);refine value_ (w1:=?_) (v:=?_) (by rfl) rfl ?_ ?_
          rotate_left 2
          ·go_simp
           constructor
           ·rfl
           ·rfl
          refine hK.out _ _ ((Qu (Qh BK110.out _) 0).trans rfl) (fun hHeld=>?_);clear hK K;refine norm_ (a':=?_) ?_ ?_
          rotate_left
          ·show Act.put _ (some 44) _=_
           simp only [Act.put,aA,aB,aC,i64_w,i32_w]
           rfl
          refine one_ (i:=15) (N:=some 45) #[true,true,true,true,true,true,true,true,true,true,true,true,true,true,true,true,false,false] rfl rfl (one_of HT_.out (by kernel_rfl)) (by decide) (fun K hK=>?_);refine Kd.R_append_step (Kd.int .i64) (w0:=w) w.heap.size (by rfl) (.tmp 31) (.tmp 44) 23 3 (.int .i64 0) 8 rfl Try.underlying23 info3 rfl (by decide) (by omega) u111000 x111000_2 (wrap64 ((wrap64 (a2 * a0)) - (wrap64 (Int.tdiv (wrap64 ((wrap64 ((wrap64 (a3 * a1))+x11_2)) - 1)) x11_2)))) [.int .i64 (wrap64 ((wrap64 (a2 * a0)) - (wrap64 (Int.tdiv (wrap64 ((wrap64 ((wrap64 (a3 * a1))+x11_2)) - 1)) x11_2))))] (fun _=>True) (fun _=>False) rfl rfl ?aP (fun _ hk=>hk.elim) ?aF ?aO ?aB ?aS ?aL ?_
          (case aP=>exact rfl)
          (case aB=>exact (by repeat (first|(with_reducible first|exact HB.out|apply Qc|apply Qa|apply Qb|refine Qd ?_ GE101.out|refine Qd ?_ GE110.out)|exact HB.out)))
          (case aF=>exact (fun _ _=>trivial))
          (case aO=>exact (by (with_reducible repeat (first|apply Kd.Qf|apply Kd.Qe|apply Kd.R_drew));exact HO_111000.out))
          (case aS=>exact (Qk (by repeat (first|(with_reducible first|exact HB.out|apply Qc|apply Qa|apply Qb|refine Qd ?_ GE101.out|refine Qd ?_ GE110.out)|exact HB.out))))
          (case aL=>have:=LMc29.out;omega)
          intro v112 w31 ho hb hg hat;rw [←Ny111.out] at ho;have n0_:=aM (blk_grown (g:=gb101) (o:= .cells #[.slice none 0 0] 53 (0,0)) (by (with_reducible repeat (first|apply Qi|apply Qj|apply Qh));exact BK101.out) hg (Kd.R_ne HO_111000.out BK101.out (by decide)));have n1_:=aM (blk_grown (g:=gb110) (o:= .cells #[u111000] 53 (0,0)) (by (with_reducible repeat (first|apply Qi|apply Qj|apply Qh));exact BK110.out) hg (Kd.R_ne HO_111000.out BK110.out (by decide)));have n2_:=aM (hb);have n3_:=aM (ho);clear BK101;clear BK110;clear HB;clear HO_111000;have BK101:=n0_;have BK110:=n1_;have HB:=n2_;have HO113:=n3_;clear n0_ n1_ n2_ n3_;clear ho hb hg hat;obtain ⟨Ao32,co32,eo32⟩:=Kd.R_slice HO113.out
          (first|subst eo32|(injection eo32 with f1_ f2_ f3_;have f4_:=f1_.symm;have f5_:=f3_.symm;clear f1_ f2_ f3_;subst f4_;subst f5_))
          refine hK.out _ _ ((Qu BK110.out 0).trans rfl) (fun hHeld=>?_);clear hK K;refine norm_ (a':=?_) ?_ ?_
          rotate_left
          ·show Act.put _ (some 45) _=_
           simp only [Act.put,aA,aB,aC,i64_w,i32_w]
           rfl
          refine pure_ (i:=16) (N:=some 46) (v:=?_) (a':=?_) #[true,true,true,true,true,true,true,true,true,true,true,true,true,true,true,true,true,false] rfl rfl (any_of HT_.out (by kernel_rfl)) (fun _ _ _ h=>h) (Or.inl ⟨by rfl,?_⟩) ?_ ?_
          rotate_left
          ·intro w'
           go_simp
           with_reducible rfl
          rotate_left
          ·simp only [Act.put,aA,aB,aC,i64_w,i32_w]
           rfl
          refine last_ (i:=17) (N:=none) #[true,true,true,true,true,true,true,true,true,true,true,true,true,true,true,true,true,true] rfl rfl (one_of HT_.out (by kernel_rfl)) (by decide) (fun K hK=>?_);have hs33:w31.cell? ⟨gb110,0,none⟩=some (u111000):=(Qu BK110.out 0).trans rfl;have hfs33:=Qs BK110.out 0;have hns33_0:=NB101_110.out;have hms33_0:=NB110_101.out;refine skip_ (w1:=?_) (by rfl) rfl ?_ ?_
          rotate_left
          ·go_simp
           rfl
          refine hK.out _ _ ?_;clear hK K;refine done_ (done_of HT_.out (by kernel_rfl)) ?_
          try go_wp2
          go_roundg k2
          case measure=>have:=HJ4.out;have:=HK2.out;omega
          case rel=>exact ⟨(wrap64 (x11_2+1)),(y111),(.slice Ao32 y111.length co32),(by first|rfl|(simp;done)|(simp [*];done)),H',⟨by have:=HJ4.out;have:=HK2.out;omega⟩,⟨by (with_reducible repeat (first|apply Kd.Qf|apply Kd.Qe|apply Kd.R_drew));exact Kd.R_mono (Kd.R_far (p:=⟨gb110,0,none⟩) (Kd.Qv HO113.out BK110.out (by decide)) (fun _ hk=>hk.2) (.slice Ao32 y111.length co32)) (fun _ hk=>trivial)⟩,⟨by (with_reducible repeat (first|apply Qi|apply Qj|apply Qh));refine blk_far ?_ NB101_110.out _;(with_reducible repeat (first|apply Qi|apply Qj|apply Qh));exact BK101.out⟩,⟨by (with_reducible repeat (first|apply Qi|apply Qj|apply Qh));refine blk_put (cs:=#[u111000]) ?_ 0 _ rfl;(with_reducible repeat (first|apply Qi|apply Qj|apply Qh));exact BK110.out⟩,⟨by repeat (first|(with_reducible first|exact HB.out|apply Qc|apply Qa|apply Qb|refine Qd ?_ GE101.out|refine Qd ?_ GE110.out)|exact HB.out)⟩⟩
         ·rw [if_neg c29] at H;exact absurd H (by simp)
       ·rw [if_neg c27] at H;have c27b0:decide (x11_2≤6)=false:=decide_eq_false c27;clear c27;replace H:=Option.bind_eq_some_iff.mp H;obtain ⟨t114,A340,H⟩:=H;replace H:(if t114=true then (some (x111000_2,true)) else (some (([]:List Int),false)))=some (r1,r2):=H;have A34:=aM A340;clear A340;by_cases c35:t114=true
        ·subst c35;have H1:(some (x111000_2,true))=some (r1,r2):=by rw [if_pos rfl] at H;exact H
         clear H;have H:=H1;clear H1;simp only [Option.some.injEq,Prod.mk.injEq] at H;obtain ⟨rfl,rfl⟩:=H;have hnb36:=NB110_101.out;have hnc36:=NB101_110.out;have hcz37_0:wr.cell? ⟨gb110,0,none⟩=some (u111000):=(Qu BK110.out 0).trans rfl;have hfz37_0:=Qs BK110.out 0;obtain ⟨Ao38,co38,eo38⟩:=Kd.R_slice HO_111000.out;subst eo38;go_wp2_with (first|((with_reducible refine Qt (f:=151) rfl ?_);refine goesL_ (some 48) rfl rfl Try.func151 (by kernel_rfl) rfl #[.agg #[.slice Ao38 x111000_2.length co38]] rfl (by (try simp only [aD,aE,aF]);first|done|rfl|(simp only [aG,aH];rfl)) ?_;(with_reducible refine (impl_isOffer.calls k2 _ _ x111000_2 true _ ?side1 ?side2 A34.out).mono ?_);(case side1=>repeat (first|exact (Kd.Qn HO_111000.out).2.2|(with_reducible refine Kd.Ql ?_ _)|(with_reducible refine Kd.Qm ?_ _)|(with_reducible refine Kd.C_drew ?_)));(case side2=>exact (Kd.Qn HO_111000.out).2.1);rintro e w39 ⟨rfl,hb⟩;refine ⟨_,rfl,?_⟩;have n0_:=aM (Kd.Qr (by (with_reducible repeat (first|apply Kd.Qf|apply Kd.Qe|apply Kd.R_drew));exact HO_111000.out) hb);have n1_:=aM (Qz (g:=gb101) (o:= .cells #[.slice none 0 0] 53 (0,0)) (by (with_reducible repeat (first|apply Qi|apply Qj|apply Qh));exact BK101.out) hb);have n2_:=aM (Qz (g:=gb110) (o:= .cells #[.slice Ao38 x111000_2.length co38] 53 (0,0)) (by (with_reducible repeat (first|apply Qi|apply Qj|apply Qh));exact BK110.out) hb);have n3_:=aM (Qg (by repeat (first|(with_reducible first|exact HB.out|apply Qc|apply Qa|apply Qb|refine Qd ?_ GE101.out|refine Qd ?_ GE110.out)|exact HB.out)) hb);clear HO_111000;clear BK101;clear BK110;clear HB;have HO_111000:=n0_;have BK101:=n1_;have BK110:=n2_;have HB:=n3_;clear n0_ n1_ n2_ n3_;(try clear hb);(try clear hb2);(try clear hk);(try clear hi);have hcz40_0:w39.cell? ⟨gb110,0,none⟩=some (.slice Ao38 x111000_2.length co38):=(Qu BK110.out 0).trans rfl;have hfz40_0:=Qs BK110.out 0;have hcz41_0:w39.cell? ⟨gb101,0,none⟩=some (.slice none 0 0):=(Qu BK101.out 0).trans rfl;have hfz41_0:=Qs BK101.out 0))
         refine bodyPost_ret (results_ct rfl _ _ gb101 53 #[.slice Ao38 x111000_2.length co38] (0,0) _ rfl (by (with_reducible repeat (first|apply Qi|apply Qj|apply Qh));refine blk_put (cs:=#[.slice none 0 0]) ?_ 0 _ rfl;(with_reducible repeat (first|apply Qi|apply Qj|apply Qh));exact BK101.out) Try.underlying53 rfl (by kernel_rfl)) rfl ?_;exact ⟨_,by first|rfl|(simp [errW_none,errW_some] <;> rfl)|(simp [*,errW_none,errW_some] <;> rfl),by (with_reducible repeat (first|apply Kd.Qf|apply Kd.Qe|apply Kd.R_drew));exact Kd.R_mono (Kd.R_far (p:=⟨gb101,0,none⟩) (Kd.Qv HO_111000.out BK101.out (by decide)) (fun _ hk=>hk.2) (.slice Ao38 x111000_2.length co38)) (fun _ hk=>trivial),by repeat (first|(with_reducible first|exact HB.out|apply Qc|apply Qa|apply Qb|refine Qd ?_ GE101.out|refine Qd ?_ GE110.out)|exact HB.out)⟩
        ·replace c35:=Bool.eq_false_iff.mpr c35;subst c35;have H1:(some (([]:List Int),false))=some (r1,r2):=by rw [if_neg (show ¬ (false=true) by decide)] at H;exact H
         clear H;have H:=H1;clear H1;simp only [Option.some.injEq,Prod.mk.injEq] at H;obtain ⟨rfl,rfl⟩:=H;have hnb42:=NB110_101.out;have hnc42:=NB101_110.out;have hcz43_0:wr.cell? ⟨gb110,0,none⟩=some (u111000):=(Qu BK110.out 0).trans rfl;have hfz43_0:=Qs BK110.out 0;obtain ⟨Ao44,co44,eo44⟩:=Kd.R_slice HO_111000.out;subst eo44;go_wp2_with (first|((with_reducible refine Qt (f:=151) rfl ?_);refine goesL_ (some 48) rfl rfl Try.func151 (by kernel_rfl) rfl #[.agg #[.slice Ao44 x111000_2.length co44]] rfl (by (try simp only [aD,aE,aF]);first|done|rfl|(simp only [aG,aH];rfl)) ?_;(with_reducible refine (impl_isOffer.calls k2 _ _ x111000_2 false _ ?side1 ?side2 A34.out).mono ?_);(case side1=>repeat (first|exact (Kd.Qn HO_111000.out).2.2|(with_reducible refine Kd.Ql ?_ _)|(with_reducible refine Kd.Qm ?_ _)|(with_reducible refine Kd.C_drew ?_)));(case side2=>exact (Kd.Qn HO_111000.out).2.1);rintro e w45 ⟨rfl,hb⟩;refine ⟨_,rfl,?_⟩;have n0_:=aM (Kd.Qr (by (with_reducible repeat (first|apply Kd.Qf|apply Kd.Qe|apply Kd.R_drew));exact HO_111000.out) hb);have n1_:=aM (Qz (g:=gb101) (o:= .cells #[.slice none 0 0] 53 (0,0)) (by (with_reducible repeat (first|apply Qi|apply Qj|apply Qh));exact BK101.out) hb);have n2_:=aM (Qz (g:=gb110) (o:= .cells #[.slice Ao44 x111000_2.length co44] 53 (0,0)) (by (with_reducible repeat (first|apply Qi|apply Qj|apply Qh));exact BK110.out) hb);have n3_:=aM (Qg (by repeat (first|(with_reducible first|exact HB.out|apply Qc|apply Qa|apply Qb|refine Qd ?_ GE101.out|refine Qd ?_ GE110.out)|exact HB.out)) hb);clear HO_111000;clear BK101;clear BK110;clear HB;have HO_111000:=n0_;have BK101:=n1_;have BK110:=n2_;have HB:=n3_;clear n0_ n1_ n2_ n3_;(try clear hb);(try clear hb2);(try clear hk);(try clear hi);have hcz46_0:w45.cell? ⟨gb101,0,none⟩=some (.slice none 0 0):=(Qu BK101.out 0).trans rfl;have hfz46_0:=Qs BK101.out 0))
         refine bodyPost_ret (results_ct rfl _ _ gb101 53 #[.slice none 0 0] (0,0) _ rfl (by (with_reducible repeat (first|apply Qi|apply Qj|apply Qh));refine blk_put (cs:=#[.slice none 0 0]) ?_ 0 _ rfl;(with_reducible repeat (first|apply Qi|apply Qj|apply Qh));exact BK101.out) Try.underlying53 rfl (by kernel_rfl)) rfl ?_;exact ⟨_,by first|rfl|(simp [errW_none,errW_some] <;> rfl)|(simp [*,errW_none,errW_some] <;> rfl),by first|exact Kd.R_nil _ _ _ _ _|exact Kd.N_nil _ _ _ _ _|exact Kd.V_nil _ _ _ _ _|exact Kd.Q_nil _ _ _ _ _|exact Kd.S_nil _ _ _ _ _,by repeat (first|(with_reducible first|exact HB.out|apply Qc|apply Qa|apply Qb|refine Qd ?_ GE101.out|refine Qd ?_ GE110.out)|exact HB.out)⟩

def laws_sameOffers.l0:Nat→List (S53)→List (S53)→Int→Int→Option (Bool)
  |0,_,_,_,_=>none
  |k+1,x0,x1,x12,x13=>if x13<x12 then (if 0≤x13 then (if x13<(x0.length:Int) then (if x13<(x1.length:Int) then ((laws_sameInts.f k ((rd_T53 x0 x13).f0) ((rd_T53 x1 x13).f0)).bind fun t103=>(if t103=true then (laws_sameOffers.l0 k x0 x1 x12 (wrap64 (x13+1))) else (some false))) else (none)) else (none)) else (none)) else (some true)
def laws_sameOffers.f (k:Nat) (l0:List (S53)) (l1:List (S53)):Option (Bool):=if (l0.length:Int)=(l1.length:Int) then (laws_sameOffers.l0 k l0 l1 (l0.length:Int) 0) else (some false)
set_option maxHeartbeats 8000000 in
set_option maxRecDepth 100000 in
theorem laws_sameOffers.calls (k:Nat) (A0:Option Addr) (c0:Nat) (l0:List (S53)) (A1:Option Addr) (c1:Nat) (l1:List (S53)) (r:Bool) (w:World) (hr0:Kd.C k53 w A0 l0.length l0) (hc0:l0.length≤c0) (hr1:Kd.C k53 w A1 l1.length l1) (hc1:l1.length≤c1) (h:laws_sameOffers.f k l0 l1=some r) :
    Calls Try.prog 56 #[.slice A0 l0.length c0,.slice A1 l1.length c1] w fun e w'=>e= .returned (.bool r)∧Drawn0 w w':=by
  have HR0:=aM hr0;have HC0:=aM hc0;clear hr0 hc0;have HR1:=aM hr1;have HC1:=aM hc1;clear hr1 hc1;have H:(if (l0.length:Int)=(l1.length:Int) then (laws_sameOffers.l0 k l0 l1 (l0.length:Int) 0) else (some false))=some r:=h;clear h;by_cases c3:(l0.length:Int)=(l1.length:Int)
  ·rw [if_pos c3] at H;have c3b0:((l0.length:Int) == (l1.length:Int))=true:=beq_iff_eq.mpr c3;have c3b1:((l0.length:Int) != (l1.length:Int))=false:=bne_eq_false_iff_eq.mpr c3;have c3b2:(l0.length == l1.length)=true:=by first|simpa using c3|(simp at c3 ⊢;omega)
   clear c3;have H':=aM H;clear H;go_enter Try.func56,Try.ntmps56;go_wp2
   repeat (go_quiet (fail);try go_wp2)
   go_loopg [13] k (fun kq v13 w'=>∃ (x13_1:Int),v13= .int .i64 x13_1∧Aside0 (laws_sameOffers.l0 kq l0 l1 (l0.length:Int) x13_1=some r)∧Aside0 (kq≤k)∧Drawn0 w w')
   case atStart=>exact ⟨(0),(by first|rfl|(simp;done)|(simp [*];done)),H',⟨Nat.le_refl _⟩,by repeat (first|exact Drawn0.refl _|apply Drawn0.step)⟩
   case round=>
    clear H';(try clear c1);(try clear p2);(try clear c3);(try clear c3b0);(try clear c3b1);(try clear c3b2);obtain ⟨x13_1,rfl,HA,HK1,⟨m1,rfl⟩⟩:=hrel
    cases gk with
    |zero=>exact absurd HA.out (by simp [laws_sameOffers.l0])
    |succ k1=>
     have H:=HA.out;clear HA;simp only [laws_sameOffers.l0] at H;by_cases c4:x13_1<(l0.length:Int)
     ·rw [if_pos c4] at H;have c4b0:decide (x13_1<(l0.length:Int))=true:=decide_eq_true c4;clear c4;by_cases c5:0≤x13_1
      ·rw [if_pos c5] at H;have c5b0:decide (0≤x13_1)=true:=decide_eq_true c5;clear c5;by_cases c6:x13_1<(l0.length:Int)
       ·rw [if_pos c6] at H;have c6b0:decide (x13_1<(l0.length:Int))=true:=decide_eq_true c6;clear c6;by_cases c7:x13_1<(l1.length:Int)
        ·rw [if_pos c7] at H;have c7b0:decide (x13_1<(l1.length:Int))=true:=decide_eq_true c7;clear c7;replace H:=Option.bind_eq_some_iff.mp H;obtain ⟨t103,A80,H⟩:=H;replace H:(if t103=true then (laws_sameOffers.l0 k1 l0 l1 (l0.length:Int) (wrap64 (x13_1+1))) else (some false))=some r:=H;have A8:=aM A80;clear A80;by_cases c9:t103=true
         ·subst c9;have H1:(laws_sameOffers.l0 k1 l0 l1 (l0.length:Int) (wrap64 (x13_1+1)))=some r:=by rw [if_pos rfl] at H;exact H
          clear H;have H:=H1;clear H1;have H':=aM H;clear H;have p101:0≤(x13_1:Int):=of_decide_eq_true (by first|(with_reducible assumption)|assumption);have q101:x13_1<(l0.length:Int):=of_decide_eq_true (by first|(with_reducible assumption)|assumption);obtain ⟨ad101,A101_0,c101_0,e101,hx101_0,hl101_0,hi101_0⟩:=at_T53 HR0.out x13_1 p101 q101
          cases e101
          have HR101_0:=aM hi101_0;have HC101_0:=aM hl101_0;clear hi101_0 hl101_0;replace p101:=eq_true p101;replace q101:=eq_true q101;have p102:0≤(x13_1:Int):=of_decide_eq_true (by first|(with_reducible assumption)|assumption);have q102:x13_1<(l1.length:Int):=of_decide_eq_true (by first|(with_reducible assumption)|assumption);obtain ⟨ad102,A102_0,c102_0,e102,hx102_0,hl102_0,hi102_0⟩:=at_T53 HR1.out x13_1 p102 q102
          cases e102
          have HR102_0:=aM hi102_0;have HC102_0:=aM hl102_0;clear hi102_0 hl102_0;replace p102:=eq_true p102;replace q102:=eq_true q102;go_wp2_with (first|(go_at_call 20;(with_reducible refine (laws_sameInts.calls k1 _ _ ((rd_T53 l0 x13_1).f0) _ _ ((rd_T53 l1 x13_1).f0) true _ ?side1 ?side2 ?side3 ?side4 A8.out).mono ?_);(case side1=>repeat (first|exact HR101_0.out|(with_reducible refine Kd.Ql ?_ _)|(with_reducible refine Kd.Qm ?_ _)|(with_reducible refine Kd.C_drew ?_)));(case side2=>exact HC101_0.out);(case side3=>repeat (first|exact HR102_0.out|(with_reducible refine Kd.Ql ?_ _)|(with_reducible refine Kd.Qm ?_ _)|(with_reducible refine Kd.C_drew ?_)));(case side4=>exact HC102_0.out);rintro e w' ⟨rfl,⟨nd,rfl⟩⟩;(try first|exact ⟨rfl,_,World.drewN_drewN _ _ _⟩|exact ⟨rfl,_,Eq.trans (World.drewN_drewN _ _ _) (congrArg (World.drewN _) (Nat.add_assoc _ _ _))⟩)))
          repeat (go_quiet (first|(go_at_call 20;(with_reducible refine (laws_sameInts.calls k1 _ _ ((rd_T53 l0 x13_1).f0) _ _ ((rd_T53 l1 x13_1).f0) true _ ?side1 ?side2 ?side3 ?side4 A8.out).mono ?_);(case side1=>repeat (first|exact HR101_0.out|(with_reducible refine Kd.Ql ?_ _)|(with_reducible refine Kd.Qm ?_ _)|(with_reducible refine Kd.C_drew ?_)));(case side2=>exact HC101_0.out);(case side3=>repeat (first|exact HR102_0.out|(with_reducible refine Kd.Ql ?_ _)|(with_reducible refine Kd.Qm ?_ _)|(with_reducible refine Kd.C_drew ?_)));(case side4=>exact HC102_0.out);rintro e w' ⟨rfl,⟨nd,rfl⟩⟩;(try first|exact ⟨rfl,_,World.drewN_drewN _ _ _⟩|exact ⟨rfl,_,Eq.trans (World.drewN_drewN _ _ _) (congrArg (World.drewN _) (Nat.add_assoc _ _ _))⟩)));try go_wp2_with (first|(go_at_call 20;(with_reducible refine (laws_sameInts.calls k1 _ _ ((rd_T53 l0 x13_1).f0) _ _ ((rd_T53 l1 x13_1).f0) true _ ?side1 ?side2 ?side3 ?side4 A8.out).mono ?_);(case side1=>repeat (first|exact HR101_0.out|(with_reducible refine Kd.Ql ?_ _)|(with_reducible refine Kd.Qm ?_ _)|(with_reducible refine Kd.C_drew ?_)));(case side2=>exact HC101_0.out);(case side3=>repeat (first|exact HR102_0.out|(with_reducible refine Kd.Ql ?_ _)|(with_reducible refine Kd.Qm ?_ _)|(with_reducible refine Kd.C_drew ?_)));(case side4=>exact HC102_0.out);rintro e w' ⟨rfl,⟨nd,rfl⟩⟩;(try first|exact ⟨rfl,_,World.drewN_drewN _ _ _⟩|exact ⟨rfl,_,Eq.trans (World.drewN_drewN _ _ _) (congrArg (World.drewN _) (Nat.add_assoc _ _ _))⟩))))
          go_roundg k1
          case measure=>have:=HK1.out;omega
          case rel=>exact ⟨(wrap64 (x13_1+1)),(by first|rfl|(simp;done)|(simp [*];done)),H',⟨by have:=HK1.out;omega⟩,by repeat (first|exact Drawn0.refl _|apply Drawn0.step)⟩
         ·replace c9:=Bool.eq_false_iff.mpr c9;subst c9;have H1:(some false)=some r:=by rw [if_neg (show ¬ (false=true) by decide)] at H;exact H
          clear H;have H:=H1;clear H1;obtain rfl:=Option.some.inj H;have p101:0≤(x13_1:Int):=of_decide_eq_true (by first|(with_reducible assumption)|assumption);have q101:x13_1<(l0.length:Int):=of_decide_eq_true (by first|(with_reducible assumption)|assumption);obtain ⟨ad101,A101_0,c101_0,e101,hx101_0,hl101_0,hi101_0⟩:=at_T53 HR0.out x13_1 p101 q101
          cases e101
          have HR101_0:=aM hi101_0;have HC101_0:=aM hl101_0;clear hi101_0 hl101_0;replace p101:=eq_true p101;replace q101:=eq_true q101;have p102:0≤(x13_1:Int):=of_decide_eq_true (by first|(with_reducible assumption)|assumption);have q102:x13_1<(l1.length:Int):=of_decide_eq_true (by first|(with_reducible assumption)|assumption);obtain ⟨ad102,A102_0,c102_0,e102,hx102_0,hl102_0,hi102_0⟩:=at_T53 HR1.out x13_1 p102 q102
          cases e102
          have HR102_0:=aM hi102_0;have HC102_0:=aM hl102_0;clear hi102_0 hl102_0;replace p102:=eq_true p102;replace q102:=eq_true q102;go_wp2_with (first|(go_at_call 20;(with_reducible refine (laws_sameInts.calls k1 _ _ ((rd_T53 l0 x13_1).f0) _ _ ((rd_T53 l1 x13_1).f0) false _ ?side1 ?side2 ?side3 ?side4 A8.out).mono ?_);(case side1=>repeat (first|exact HR101_0.out|(with_reducible refine Kd.Ql ?_ _)|(with_reducible refine Kd.Qm ?_ _)|(with_reducible refine Kd.C_drew ?_)));(case side2=>exact HC101_0.out);(case side3=>repeat (first|exact HR102_0.out|(with_reducible refine Kd.Ql ?_ _)|(with_reducible refine Kd.Qm ?_ _)|(with_reducible refine Kd.C_drew ?_)));(case side4=>exact HC102_0.out);rintro e w' ⟨rfl,⟨nd,rfl⟩⟩;(try first|exact ⟨rfl,_,World.drewN_drewN _ _ _⟩|exact ⟨rfl,_,Eq.trans (World.drewN_drewN _ _ _) (congrArg (World.drewN _) (Nat.add_assoc _ _ _))⟩)))
          repeat (go_quiet (first|(go_at_call 20;(with_reducible refine (laws_sameInts.calls k1 _ _ ((rd_T53 l0 x13_1).f0) _ _ ((rd_T53 l1 x13_1).f0) false _ ?side1 ?side2 ?side3 ?side4 A8.out).mono ?_);(case side1=>repeat (first|exact HR101_0.out|(with_reducible refine Kd.Ql ?_ _)|(with_reducible refine Kd.Qm ?_ _)|(with_reducible refine Kd.C_drew ?_)));(case side2=>exact HC101_0.out);(case side3=>repeat (first|exact HR102_0.out|(with_reducible refine Kd.Ql ?_ _)|(with_reducible refine Kd.Qm ?_ _)|(with_reducible refine Kd.C_drew ?_)));(case side4=>exact HC102_0.out);rintro e w' ⟨rfl,⟨nd,rfl⟩⟩;(try first|exact ⟨rfl,_,World.drewN_drewN _ _ _⟩|exact ⟨rfl,_,Eq.trans (World.drewN_drewN _ _ _) (congrArg (World.drewN _) (Nat.add_assoc _ _ _))⟩)));try go_wp2_with (first|(go_at_call 20;(with_reducible refine (laws_sameInts.calls k1 _ _ ((rd_T53 l0 x13_1).f0) _ _ ((rd_T53 l1 x13_1).f0) false _ ?side1 ?side2 ?side3 ?side4 A8.out).mono ?_);(case side1=>repeat (first|exact HR101_0.out|(with_reducible refine Kd.Ql ?_ _)|(with_reducible refine Kd.Qm ?_ _)|(with_reducible refine Kd.C_drew ?_)));(case side2=>exact HC101_0.out);(case side3=>repeat (first|exact HR102_0.out|(with_reducible refine Kd.Ql ?_ _)|(with_reducible refine Kd.Qm ?_ _)|(with_reducible refine Kd.C_drew ?_)));(case side4=>exact HC102_0.out);rintro e w' ⟨rfl,⟨nd,rfl⟩⟩;(try first|exact ⟨rfl,_,World.drewN_drewN _ _ _⟩|exact ⟨rfl,_,Eq.trans (World.drewN_drewN _ _ _) (congrArg (World.drewN _) (Nat.add_assoc _ _ _))⟩))))
          go_ret
          exact ⟨by first|rfl|(simp;done)|(simp [*];done),by repeat (first|exact Drawn0.refl _|apply Drawn0.step)⟩
        ·rw [if_neg c7] at H;exact absurd H (by simp)
       ·rw [if_neg c6] at H;exact absurd H (by simp)
      ·rw [if_neg c5] at H;exact absurd H (by simp)
     ·rw [if_neg c4] at H;have c4b0:decide (x13_1<(l0.length:Int))=false:=decide_eq_false c4;clear c4;obtain rfl:=Option.some.inj H;go_wp2
      repeat (go_quiet (fail);try go_wp2)
      go_ret
      exact ⟨by first|rfl|(simp;done)|(simp [*];done),by repeat (first|exact Drawn0.refl _|apply Drawn0.step)⟩
  ·rw [if_neg c3] at H;have c3b0:((l0.length:Int) == (l1.length:Int))=false:=beq_eq_false_iff_ne.mpr c3;have c3b1:((l0.length:Int) != (l1.length:Int))=true:=bne_iff_ne.mpr c3;have c3b2:(l0.length == l1.length)=false:=by first|simpa using c3|(simp at c3 ⊢;omega)
   obtain rfl:=Option.some.inj H;go_enter Try.func56,Try.ntmps56;go_wp2
   repeat (go_quiet (fail);try go_wp2)
   go_ret
   exact ⟨by first|rfl|(simp;done)|(simp [*];done),by repeat (first|exact Drawn0.refl _|apply Drawn0.step)⟩
end Go.Proofs.Ytpagpbamdpllnaa.Print
