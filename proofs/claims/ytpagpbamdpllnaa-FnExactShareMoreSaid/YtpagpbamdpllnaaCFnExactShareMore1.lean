/- At every argument ShareMore of the program answers as ShareMore of the reference, before and after its answer is written over: no condition but the statement's own. -/
import Derived.Test.YtpagpbamdpllnaaCFnExactShareMore0
set_option linter.unusedVariables false
set_option linter.unusedSimpArgs false
namespace Go.Proofs.Ytpagpbamdpllnaa.Print
open Go.RowKit Go.Proofs.YtpagpbamdpllnaaW.PrintWords Go.Proofs.YtpagpbamdpllnaaW.PrintLast Go.Proofs.YtpagpbamdpllnaaW.PrintMore
attribute [local go_sem] max2_int min2_int max_two min_two max_three min_three max_four min_four

def spec_ShareMore.l0:Nat→List Int→Int→List (List Int)→Int→Option ((List (List Int))×Bool)
  |0,_,_,_,_=>none
  |k+1,x0,x1,x6,x7=>if x7≤x1 then ((spec_l4Share.f k x0 x7).bind fun t102=>(if x6.length<5864062014805 then (spec_ShareMore.l0 k x0 x1 (x6 ++ [t102]) (wrap64 (x7+1))) else (none))) else (some (x6,true))
def spec_ShareMore.f (k:Nat) (l0:List Int) (a1:Int):Option ((List (List Int))×Bool):=(spec_GoodKinds.f k l0 a1).bind fun t101=>(if t101=true then (spec_ShareMore.l0 k l0 a1 ([]:List (List Int)) (l0.length:Int)) else (some (([]:List (List Int)),false)))
set_option maxHeartbeats 8000000 in
set_option maxRecDepth 100000 in
theorem spec_ShareMore.calls (k:Nat) (A0:Option Addr) (c0:Nat) (l0:List Int) (a1:Int) (r1:List (List Int)) (r2:Bool) (w:World) (hr0:Kd.C (Kd.int .i64) w A0 l0.length l0) (hc0:l0.length≤c0) (h:spec_ShareMore.f k l0 a1=some (r1,r2)) :
    Calls Try.prog 19 #[.slice A0 l0.length c0,.int .i64 a1] w fun e w'=>∃ v0_:Value,e= .returned (.tuple #[v0_,.bool r2])∧Kd.S (Kd.slice 3 (Kd.int .i64)) 23 w' w.heap.size (fun _=>True) v0_ r1∧Below w.heap.size w w':=by
  have HR0:=aM hr0;have HC0:=aM hc0;clear hr0 hc0;have HB:=aM (Below.refl w.heap.size w);have H:((spec_GoodKinds.f k l0 a1).bind fun t101=>(if t101=true then (spec_ShareMore.l0 k l0 a1 ([]:List (List Int)) (l0.length:Int)) else (some (([]:List (List Int)),false))))=some (r1,r2):=h;clear h;replace H:=Option.bind_eq_some_iff.mp H;obtain ⟨t101,A30,H⟩:=H;replace H:(if t101=true then (spec_ShareMore.l0 k l0 a1 ([]:List (List Int)) (l0.length:Int)) else (some (([]:List (List Int)),false)))=some (r1,r2):=H;have A3:=aM A30;clear A30;by_cases c4:t101=true
  ·subst c4;have H1:(spec_ShareMore.l0 k l0 a1 ([]:List (List Int)) (l0.length:Int))=some (r1,r2):=by rw [if_pos rfl] at H;exact H
   clear H;have H:=H1;clear H1;have H':=aM H;clear H;go_enter Try.func19,Try.ntmps19;go_wp2_with (first|((with_reducible refine Qh (f:=110) rfl ?_);refine goesL_ (some 10) rfl rfl Try.func110 (by kernel_rfl) rfl #[.slice A0 l0.length c0,.int .i64 a1] rfl (by (try simp only [aD,aE,aF]);first|done|rfl|(simp only [aG,aH];rfl)) ?_;(with_reducible refine (spec_GoodKinds.calls k _ _ l0 a1 true _ ?side1 ?side2 A3.out).mono ?_);(case side1=>repeat (first|exact HR0.out|(with_reducible refine Kd.C_alloc ?_ _)|(with_reducible refine Kd.C_drewN ?_ _)|(with_reducible refine Kd.C_drew ?_)));(case side2=>exact HC0.out);rintro e w' ⟨rfl,⟨nd,rfl⟩⟩;refine ⟨_,rfl,?_⟩))
   go_loopg [6,7] k (fun kq v6 v7 w'=>∃ (x6_1:List (List Int)) (x7_1:Int),v7= .int .i64 x7_1∧Aside0 (spec_ShareMore.l0 kq l0 a1 x6_1 x7_1=some (r1,r2))∧Aside0 (kq≤k)∧Aside0 (Kd.S (Kd.slice 3 (Kd.int .i64)) 23 w' w.heap.size (fun _=>True) v6 x6_1)∧Aside0 (Below w.heap.size w w'))
   case atStart=>exact ⟨(([]:List (List Int))),((l0.length:Int)),(by first|rfl|(simp;done)|(simp [*];done)),H',⟨Nat.le_refl _⟩,⟨by first|exact Kd.S_nil _ _ _ _ _|exact Kd.N_nil _ _ _ _ _|exact Kd.V_nil _ _ _ _ _|exact Kd.Q_nil _ _ _ _ _|exact Kd.R_nil _ _ _ _ _⟩,⟨by repeat (first|(with_reducible first|exact HB.out|apply Qc|apply Qa|apply Qb)|exact HB.out)⟩⟩
   case round=>
    clear H';(try clear c1);(try clear p2);(try clear c4);obtain ⟨x6_1,x7_1,rfl,HA,HK1,HO_6,HB⟩:=hrel
    cases gk with
    |zero=>exact absurd HA.out (by simp [spec_ShareMore.l0])
    |succ k1=>
     have H:=HA.out;clear HA;simp only [spec_ShareMore.l0] at H;by_cases c5:x7_1≤a1
     ·rw [if_pos c5] at H;have c5b0:decide (x7_1≤a1)=true:=decide_eq_true c5;clear c5;replace H:=Option.bind_eq_some_iff.mp H;obtain ⟨t102,A60,H⟩:=H;replace H:(if x6_1.length<5864062014805 then (spec_ShareMore.l0 k1 l0 a1 (x6_1 ++ [t102]) (wrap64 (x7_1+1))) else (none))=some (r1,r2):=H;have A6:=aM A60;clear A60;by_cases c7:x6_1.length<5864062014805
      ·rw [if_pos c7] at H;have LMc7:=aM c7;clear c7;obtain ⟨y105,hy105⟩:∃ y_:List (List Int),y_=(x6_1 ++ [t102]):=⟨_,rfl⟩;replace H:(spec_ShareMore.l0 k1 l0 a1 y105 (wrap64 (x7_1+1)))=some (r1,r2):=by first|(rw [hy105];with_reducible exact H)|(have H2_:=(Option.bind_some _ _).symm.trans H;rw [hy105];with_reducible exact H2_)|(have H2_:=(Option.bind_some _ _).symm.trans H;with_reducible exact H2_)|with_reducible exact H|(rw [hy105];exact H)|exact H
       have Ny105:=aM hy105;clear hy105;have H':=aM H;clear H;go_wp2_with (first|((with_reducible refine Qh (f:=111) rfl ?_);refine goesL_ (some 22) rfl rfl Try.func111 (by kernel_rfl) rfl #[.slice A0 l0.length c0,.int .i64 x7_1] rfl (by (try simp only [aD,aE,aF]);first|done|rfl|(simp only [aG,aH];rfl)) ?_;(with_reducible refine (spec_l4Share.calls k1 _ _ l0 x7_1 t102 _ ?side1 ?side2 A6.out).mono ?_);(case side1=>repeat (first|exact (Kd.C_below HR0.out HB.out)|(with_reducible refine Kd.C_alloc ?_ _)|(with_reducible refine Kd.C_drewN ?_ _)|(with_reducible refine Kd.C_drew ?_)));(case side2=>exact HC0.out);rintro e w8 ⟨v103,rfl,ho0,hb⟩;refine ⟨_,rfl,?_⟩;have n0_:=aM (Kd.S_elder' (by (with_reducible repeat (first|apply Kd.S_alloc|apply Kd.S_drewN|apply Kd.S_drew));exact HO_6.out) (Kd.R_base ho0) hb);have n1_:=aM (Kd.R_lower ho0 (Qj (by repeat (first|(with_reducible first|exact HB.out|apply Qc|apply Qa|apply Qb)|exact HB.out))));have n2_:=aM (Qi (by repeat (first|(with_reducible first|exact HB.out|apply Qc|apply Qa|apply Qb)|exact HB.out)) hb);clear HO_6;clear HB;have HO_6:=n0_;have HO104:=n1_;have HB:=n2_;clear n0_ n1_ n2_;(try clear hb);(try clear hb2);(try clear hk);(try clear hi);(try clear ho0);obtain ⟨Ao10,co10,eo10⟩:=Kd.R_slice HO104.out;subst eo10)|((with_reducible refine gate_builtin (b:= .append) (xs:=#[.tmp 19,.tmp 23]) rfl ?_);at_builtin;refine Kd.S_append (Kd.slice 3 (Kd.int .i64)) (w0:=w) w.heap.size rfl (.tmp 19) (.tmp 23) 28 23 (.slice none 0 0) 24 rfl Try.underlying28 info23 rfl (by decide) (by omega) u6 x6_1 t102 [.slice Ao10 t102.length co10] (fun _=>True) (fun k_=>some k_=(.slice Ao10 t102.length co10:Value).ownBlock) rfl rfl ?aP (fun k_ hk_=>((Kd.R_mono (ok':=fun k_=>((fun _=>True)) k_∧some k_≠(u6:Value).ownBlock) (Kd.R_apart' (HO104.out) (Kd.S_typed HO_6.out) (by decide)) (fun k_ hk=>⟨trivial,hk.2⟩))).1 k_ hk_.symm) ?aF ?aO ?aB ?aS ?aL ?_;(case aP=>exact Kd.M_row (Kd.R_mono (Kd.R_tight rfl (Kd.R_mono (ok':=fun k_=>((fun _=>True)) k_∧some k_≠(u6:Value).ownBlock) (Kd.R_apart' (HO104.out) (Kd.S_typed HO_6.out) (by decide)) (fun k_ hk=>⟨trivial,hk.2⟩))) (fun _ h_=>h_)));(case aB=>exact (by repeat (first|(with_reducible first|exact HB.out|apply Qc|apply Qa|apply Qb)|exact HB.out)));(case aF=>exact (fun _ _=>trivial));(case aO=>exact (by (with_reducible repeat (first|apply Kd.S_alloc|apply Kd.S_drewN|apply Kd.S_drew));exact Kd.S_mono HO_6.out (fun k_ hk=>⟨trivial,fun e_=>hk.2 e_⟩)));(case aS=>exact (Qj (by repeat (first|(with_reducible first|exact HB.out|apply Qc|apply Qa|apply Qb)|exact HB.out))));(case aL=>have:=LMc7.out;omega);intro v106 w9 ho hb hg hat;rw [←Ny105.out] at ho;have n0_:=aM (hb);have n1_:=aM (ho);clear HB;clear HO_6;clear HO104;have HB:=n0_;have HO107:=n1_;clear n0_ n1_;clear ho hb hg hat))
       go_roundg k1
       case measure=>have:=HK1.out;omega
       case rel=>exact ⟨(y105),(wrap64 (x7_1+1)),(by first|rfl|(simp;done)|(simp [*];done)),H',⟨by have:=HK1.out;omega⟩,⟨by (with_reducible repeat (first|apply Kd.S_alloc|apply Kd.S_drewN|apply Kd.S_drew));exact HO107.out⟩,⟨by repeat (first|(with_reducible first|exact HB.out|apply Qc|apply Qa|apply Qb)|exact HB.out)⟩⟩
      ·rw [if_neg c7] at H;exact absurd H (by simp)
     ·rw [if_neg c5] at H;have c5b0:decide (x7_1≤a1)=false:=decide_eq_false c5;clear c5;simp only [Option.some.injEq,Prod.mk.injEq] at H;obtain ⟨rfl,rfl⟩:=H;go_wp2
      go_ret2
      exact ⟨_,by first|rfl|(simp [errW_none,errW_some] <;> rfl)|(simp [*,errW_none,errW_some] <;> rfl),by (with_reducible repeat (first|apply Kd.S_alloc|apply Kd.S_drewN|apply Kd.S_drew));exact HO_6.out,by repeat (first|(with_reducible first|exact HB.out|apply Qc|apply Qa|apply Qb)|exact HB.out)⟩
  ·replace c4:=Bool.eq_false_iff.mpr c4;subst c4;have H1:(some (([]:List (List Int)),false))=some (r1,r2):=by rw [if_neg (show ¬ (false=true) by decide)] at H;exact H
   clear H;have H:=H1;clear H1;simp only [Option.some.injEq,Prod.mk.injEq] at H;obtain ⟨rfl,rfl⟩:=H;go_enter Try.func19,Try.ntmps19;go_wp2_with (first|((with_reducible refine Qh (f:=110) rfl ?_);refine goesL_ (some 10) rfl rfl Try.func110 (by kernel_rfl) rfl #[.slice A0 l0.length c0,.int .i64 a1] rfl (by (try simp only [aD,aE,aF]);first|done|rfl|(simp only [aG,aH];rfl)) ?_;(with_reducible refine (spec_GoodKinds.calls k _ _ l0 a1 false _ ?side1 ?side2 A3.out).mono ?_);(case side1=>repeat (first|exact HR0.out|(with_reducible refine Kd.C_alloc ?_ _)|(with_reducible refine Kd.C_drewN ?_ _)|(with_reducible refine Kd.C_drew ?_)));(case side2=>exact HC0.out);rintro e w' ⟨rfl,⟨nd,rfl⟩⟩;refine ⟨_,rfl,?_⟩))
   go_ret2
   exact ⟨_,by first|rfl|(simp [errW_none,errW_some] <;> rfl)|(simp [*,errW_none,errW_some] <;> rfl),by first|exact Kd.S_nil _ _ _ _ _|exact Kd.N_nil _ _ _ _ _|exact Kd.V_nil _ _ _ _ _|exact Kd.Q_nil _ _ _ _ _|exact Kd.R_nil _ _ _ _ _,by repeat (first|(with_reducible first|exact HB.out|apply Qc|apply Qa|apply Qb)|exact HB.out)⟩

def laws_eqIntS.l0:Nat→List Int→List Int→Int→Option (Bool)
  |0,_,_,_=>none
  |k+1,x0,x1,x5=>if x5<(x0.length:Int) then (if 0≤x5 then (if x5<(x1.length:Int) then (if (rd x0 x5)=(rd x1 x5) then (laws_eqIntS.l0 k x0 x1 (wrap64 (x5+1))) else (some false)) else (none)) else (none)) else (some true)
def laws_eqIntS.f (k:Nat) (l0:List Int) (l1:List Int):Option (Bool):=if (l0.length:Int)=(l1.length:Int) then (laws_eqIntS.l0 k l0 l1 0) else (some false)
set_option maxHeartbeats 8000000 in
set_option maxRecDepth 100000 in
theorem laws_eqIntS.calls (k:Nat) (A0:Option Addr) (c0:Nat) (l0:List Int) (A1:Option Addr) (c1:Nat) (l1:List Int) (r:Bool) (w:World) (hr0:Kd.C (Kd.int .i64) w A0 l0.length l0) (hc0:l0.length≤c0) (hr1:Kd.C (Kd.int .i64) w A1 l1.length l1) (hc1:l1.length≤c1) (h:laws_eqIntS.f k l0 l1=some r) :
    Calls Try.prog 61 #[.slice A0 l0.length c0,.slice A1 l1.length c1] w fun e w'=>e= .returned (.bool r)∧Drawn0 w w':=by
  have HR0:=aM hr0;have HC0:=aM hc0;clear hr0 hc0;have HR1:=aM hr1;have HC1:=aM hc1;clear hr1 hc1;have H:(if (l0.length:Int)=(l1.length:Int) then (laws_eqIntS.l0 k l0 l1 0) else (some false))=some r:=h;clear h;by_cases c3:(l0.length:Int)=(l1.length:Int)
  ·rw [if_pos c3] at H;have c3b0:((l0.length:Int) == (l1.length:Int))=true:=beq_iff_eq.mpr c3;have c3b1:((l0.length:Int) != (l1.length:Int))=false:=bne_eq_false_iff_eq.mpr c3;have c3b2:(l0.length == l1.length)=true:=by first|simpa using c3|(simp at c3 ⊢;omega)
   clear c3;have H':=aM H;clear H;go_enter Try.func61,Try.ntmps61;go_wp2
   repeat (go_quiet (fail);try go_wp2)
   go_loopg [5] k (fun kq v5 w'=>∃ (x5_1:Int),v5= .int .i64 x5_1∧Aside0 (laws_eqIntS.l0 kq l0 l1 x5_1=some r)∧Aside0 (kq≤k)∧Drawn0 w w')
   case atStart=>exact ⟨(0),(by first|rfl|(simp;done)|(simp [*];done)),H',⟨Nat.le_refl _⟩,by repeat (first|exact Drawn0.refl _|apply Drawn0.step)⟩
   case round=>
    clear H';(try clear c1);(try clear p2);(try clear c3);(try clear c3b0);(try clear c3b1);(try clear c3b2);obtain ⟨x5_1,rfl,HA,HK1,⟨m1,rfl⟩⟩:=hrel
    cases gk with
    |zero=>exact absurd HA.out (by simp [laws_eqIntS.l0])
    |succ k1=>
     have H:=HA.out;clear HA;simp only [laws_eqIntS.l0] at H;by_cases c4:x5_1<(l0.length:Int)
     ·rw [if_pos c4] at H;have c4b0:decide (x5_1<(l0.length:Int))=true:=decide_eq_true c4;clear c4;by_cases c5:0≤x5_1
      ·rw [if_pos c5] at H;have c5b0:decide (0≤x5_1)=true:=decide_eq_true c5;clear c5;by_cases c6:x5_1<(l1.length:Int)
       ·rw [if_pos c6] at H;have c6b0:decide (x5_1<(l1.length:Int))=true:=decide_eq_true c6;clear c6;by_cases c7:(rd l0 x5_1)=(rd l1 x5_1)
        ·rw [if_pos c7] at H;have c7b0:((rd l0 x5_1) == (rd l1 x5_1))=true:=beq_iff_eq.mpr c7;have c7b1:((rd l0 x5_1) != (rd l1 x5_1))=false:=bne_eq_false_iff_eq.mpr c7;clear c7;have H':=aM H;clear H;have p101:0≤(x5_1:Int):=of_decide_eq_true (by first|(with_reducible assumption)|assumption);have q101:x5_1<(l0.length:Int):=of_decide_eq_true (by first|(with_reducible assumption)|assumption);obtain ⟨ad101,e101,hx101_0⟩:=Kd.at_int HR0.out x5_1 p101 q101
         cases e101
         replace p101:=eq_true p101;replace q101:=eq_true q101;have p102:0≤(x5_1:Int):=of_decide_eq_true (by first|(with_reducible assumption)|assumption);have q102:x5_1<(l1.length:Int):=of_decide_eq_true (by first|(with_reducible assumption)|assumption);obtain ⟨ad102,e102,hx102_0⟩:=Kd.at_int HR1.out x5_1 p102 q102
         cases e102
         replace p102:=eq_true p102;replace q102:=eq_true q102;go_wp2
         repeat (go_quiet (fail);try go_wp2)
         go_roundg k1
         case measure=>have:=HK1.out;omega
         case rel=>exact ⟨(wrap64 (x5_1+1)),(by first|rfl|(simp;done)|(simp [*];done)),H',⟨by have:=HK1.out;omega⟩,by repeat (first|exact Drawn0.refl _|apply Drawn0.step)⟩
        ·rw [if_neg c7] at H;have c7b0:((rd l0 x5_1) == (rd l1 x5_1))=false:=beq_eq_false_iff_ne.mpr c7;have c7b1:((rd l0 x5_1) != (rd l1 x5_1))=true:=bne_iff_ne.mpr c7;obtain rfl:=Option.some.inj H;have p101:0≤(x5_1:Int):=of_decide_eq_true (by first|(with_reducible assumption)|assumption);have q101:x5_1<(l0.length:Int):=of_decide_eq_true (by first|(with_reducible assumption)|assumption);obtain ⟨ad101,e101,hx101_0⟩:=Kd.at_int HR0.out x5_1 p101 q101
         cases e101
         replace p101:=eq_true p101;replace q101:=eq_true q101;have p102:0≤(x5_1:Int):=of_decide_eq_true (by first|(with_reducible assumption)|assumption);have q102:x5_1<(l1.length:Int):=of_decide_eq_true (by first|(with_reducible assumption)|assumption);obtain ⟨ad102,e102,hx102_0⟩:=Kd.at_int HR1.out x5_1 p102 q102
         cases e102
         replace p102:=eq_true p102;replace q102:=eq_true q102;go_wp2
         repeat (go_quiet (fail);try go_wp2)
         go_ret
         exact ⟨by first|rfl|(simp;done)|(simp [*];done),by repeat (first|exact Drawn0.refl _|apply Drawn0.step)⟩
       ·rw [if_neg c6] at H;exact absurd H (by simp)
      ·rw [if_neg c5] at H;exact absurd H (by simp)
     ·rw [if_neg c4] at H;have c4b0:decide (x5_1<(l0.length:Int))=false:=decide_eq_false c4;clear c4;obtain rfl:=Option.some.inj H;go_wp2
      repeat (go_quiet (fail);try go_wp2)
      go_ret
      exact ⟨by first|rfl|(simp;done)|(simp [*];done),by repeat (first|exact Drawn0.refl _|apply Drawn0.step)⟩
  ·rw [if_neg c3] at H;have c3b0:((l0.length:Int) == (l1.length:Int))=false:=beq_eq_false_iff_ne.mpr c3;have c3b1:((l0.length:Int) != (l1.length:Int))=true:=bne_iff_ne.mpr c3;have c3b2:(l0.length == l1.length)=false:=by first|simpa using c3|(simp at c3 ⊢;omega)
   obtain rfl:=Option.some.inj H;go_enter Try.func61,Try.ntmps61;go_wp2
   repeat (go_quiet (fail);try go_wp2)
   go_ret
   exact ⟨by first|rfl|(simp;done)|(simp [*];done),by repeat (first|exact Drawn0.refl _|apply Drawn0.step)⟩

def laws_markIntS.l0:Nat→List Int→Int→Int→Option (Int×List Int)
  |0,_,_,_=>none
  |k+1,x0,x1,x5=>if x5<(x0.length:Int) then (if 0≤x5 then (laws_markIntS.l0 k (x0.set (x5:Int).toNat x1) (wrap64 (x1+1)) (wrap64 (x5+1))) else (none)) else (some (x1,x0))
def laws_markIntS.f (k:Nat) (l0:List Int) (a1:Int):Option (Int×List Int):=laws_markIntS.l0 k l0 a1 0
set_option maxHeartbeats 8000000 in
set_option maxRecDepth 100000 in
theorem laws_markIntS.calls (k:Nat) (P0_:Nat→Prop) (u9000_:Value) (l0:List Int) (a1:Int) (r1:Int) (r2:List Int) (w0 w:World) (hB:Below w0.heap.size w0 w) (ho0:Kd.R (Kd.int .i64) 3 w w0.heap.size P0_ u9000_ l0) (h:laws_markIntS.f k l0 a1=some (r1,r2)) :
    Calls Try.prog 64 #[u9000_,.int .i64 a1] w fun e w'=>e= .returned (.int .i64 r1)∧Kd.R (Kd.int .i64) 3 w' w0.heap.size (fun k_=>(P0_ k_∨w.heap.size≤k_)) u9000_ r2∧Below w0.heap.size w0 w'∧Kept w w' (fun k_=>P0_ k_):=by
  have HO0:=aM (show Kd.R (Kd.int .i64) 3 w w0.heap.size (fun k_=>(P0_ k_∨w.heap.size≤k_)) u9000_ l0 from Kd.R_mono ho0 (fun k_ hk=>(.inl hk)));have HK:=aM (Kept.refl w (fun k_=>P0_ k_));have HW0:=aM hB.size;have HB:=aM hB;clear hB;have H:(laws_markIntS.l0 k l0 a1 0)=some (r1,r2):=h;clear h;have H':=aM H;clear H;go_enter Try.func64,Try.ntmps64;go_wp2;go_loopg [1,5] k (fun kq v1 v5 w'=>∃ (x0_1:List Int) (x1_1:Int) (x5_1:Int),v1= .int .i64 x1_1∧v5= .int .i64 x5_1∧Aside0 (laws_markIntS.l0 kq x0_1 x1_1 x5_1=some (r1,r2))∧Aside0 (kq≤k)∧Aside0 (Kd.R (Kd.int .i64) 3 w' w0.heap.size (fun k_=>(P0_ k_∨w.heap.size≤k_)) u9000_ x0_1)∧Aside0 (Kept w w' (fun k_=>P0_ k_))∧Aside0 (Below w0.heap.size w0 w'))
  case atStart=>exact ⟨(l0),(a1),(0),(by first|rfl|(simp;done)|(simp [*];done)),(by first|rfl|(simp;done)|(simp [*];done)),H',⟨Nat.le_refl _⟩,⟨by (with_reducible repeat (first|apply Kd.R_alloc|apply Kd.R_drewN|apply Kd.R_drew));exact HO0.out⟩,⟨by repeat (first|(with_reducible first|exact HK.out|apply Kept.alloc|apply Kept.drewN|apply Kept.drew)|exact HK.out)⟩,⟨by repeat (first|(with_reducible first|exact HB.out|apply Qc|apply Qa|apply Qb)|exact HB.out)⟩⟩
  case round=>
   clear H';(try clear p2);obtain ⟨x0_1,x1_1,x5_1,rfl,rfl,HA,HK1,HO_0,HK,HB⟩:=hrel
   cases gk with
   |zero=>exact absurd HA.out (by simp [laws_markIntS.l0])
   |succ k1=>
    have H:=HA.out;clear HA;simp only [laws_markIntS.l0] at H;by_cases c3:x5_1<(x0_1.length:Int)
    ·rw [if_pos c3] at H;have c3b0:decide (x5_1<(x0_1.length:Int))=true:=decide_eq_true c3;clear c3;by_cases c4:0≤x5_1
     ·rw [if_pos c4] at H;have c4b0:decide (0≤x5_1)=true:=decide_eq_true c4;clear c4;obtain ⟨y101,hy101⟩:∃ y_:List Int,y_=(x0_1.set (x5_1:Int).toNat x1_1):=⟨_,rfl⟩;replace H:(laws_markIntS.l0 k1 y101 (wrap64 (x1_1+1)) (wrap64 (x5_1+1)))=some (r1,r2):=by first|(rw [hy101];with_reducible exact H)|(have H2_:=(Option.bind_some _ _).symm.trans H;rw [hy101];with_reducible exact H2_)|(have H2_:=(Option.bind_some _ _).symm.trans H;with_reducible exact H2_)|with_reducible exact H|(rw [hy101];exact H)|exact H
      have Ny101:=aM hy101;clear hy101;have H':=aM H;clear H;obtain ⟨Ao6,co6,eo6⟩:=Kd.R_slice HO_0.out;subst eo6;have p5:0≤(x5_1:Int):=of_decide_eq_true (by first|(with_reducible assumption)|assumption);have q5:(x5_1:Int)<((x0_1.length:Int):Int):=of_decide_eq_true (by first|(with_reducible assumption)|assumption);obtain ⟨go5,co5,eo5,gb5,gl5,cl5,HG5⟩:=Kd.R_form HO_0.out (by omega)
      (first|cases eo5|(injection eo5 with ea_ en_ ec_;(first|subst ea_|(injection ea_ with ea_;subst ea_));subst ec_;clear en_))
      have GB5:=aM gb5;have GG5:=aM HG5;clear gb5 gl5 HG5;have HMgo5:=aM (show (P0_ go5∨w.heap.size≤go5) from (HO_0.out.1 _ rfl));obtain ⟨hx5_0,hf5_0⟩:=Kd.R_celln 0 HO_0.out (x5_1:Int) p5 q5;replace p5:=eq_true p5;replace q5:=eq_true q5;have HP7:=Kd.R_putg HO_0.out (x5_1:Int) x1_1;go_wp2_with (first|((with_reducible refine gate_store (t:=3) (p:=15) rfl ?_);refine store_event (t:=3) (p:=15) (v:=?vo_w8) (w1:=(wr.setCell ⟨go5,(x5_1:Int).toNat,none⟩ (.int .i64 x1_1))) ?hg ?ho ?hn ?hr ?_;(case ho=>rfl);(case hg=>rfl);(case hn=>rfl);(case hr=>first|(go_simp;done)|(go_simp;rfl));intro w8 hw;have hg:wr.grownBy w8 (some go5):=(by rw [hw];exact HP7.2);have hp_:Kd.R (Kd.int .i64) 3 w8 w0.heap.size (fun k_=>(P0_ k_∨w.heap.size≤k_)) (.slice (some ⟨go5,0,none⟩) x0_1.length co6) y101:=(by rw [hw,Ny101.out];exact HP7.1);clear HP7;have n0_:=aM (hp_);have n1_:=aM ((by rw [hw];exact Qg (HB.out) GB5.out:Below w0.heap.size w0 w8));have n2_:=aM (Kept.of_grown (S:=(fun k_=>P0_ k_)) hg (by repeat (first|(with_reducible first|exact HK.out|apply Kept.alloc|apply Kept.drewN|apply Kept.drew)|exact HK.out)) (fun k_ e_=>(HO_0.out.1 k_ e_)));clear HO_0;clear HB;clear HK;have HO_0:=n0_;have HB:=n1_;have HK:=n2_;clear n0_ n1_ n2_;clear hg hw hp_))
      go_roundg k1
      case measure=>have:=HK1.out;omega
      case rel=>exact ⟨(y101),(wrap64 (x1_1+1)),(wrap64 (x5_1+1)),(by first|rfl|(simp;done)|(simp [*];done)),(by first|rfl|(simp;done)|(simp [*];done)),H',⟨by have:=HK1.out;omega⟩,⟨by (with_reducible repeat (first|apply Kd.R_alloc|apply Kd.R_drewN|apply Kd.R_drew));exact HO_0.out⟩,⟨by repeat (first|(with_reducible first|exact HK.out|apply Kept.alloc|apply Kept.drewN|apply Kept.drew)|exact HK.out)⟩,⟨by repeat (first|(with_reducible first|exact HB.out|apply Qc|apply Qa|apply Qb)|exact HB.out)⟩⟩
     ·rw [if_neg c4] at H;exact absurd H (by simp)
    ·rw [if_neg c3] at H;have c3b0:decide (x5_1<(x0_1.length:Int))=false:=decide_eq_false c3;clear c3;simp only [Option.some.injEq,Prod.mk.injEq] at H;obtain ⟨rfl,rfl⟩:=H;obtain ⟨Ao9,co9,eo9⟩:=Kd.R_slice HO_0.out;subst eo9;go_wp2
     go_ret
     exact ⟨by first|rfl|(simp [errW_none,errW_some] <;> rfl)|(simp [*,errW_none,errW_some] <;> rfl),by (with_reducible repeat (first|apply Kd.R_alloc|apply Kd.R_drewN|apply Kd.R_drew));exact HO_0.out,by repeat (first|(with_reducible first|exact HB.out|apply Qc|apply Qa|apply Qb)|exact HB.out),by repeat (first|(with_reducible first|exact HK.out|apply Kept.alloc|apply Kept.drewN|apply Kept.drew)|exact HK.out)⟩

def laws_toIntS.l0:Nat→List Int→List Int→Int→Option (List Int)
  |0,_,_,_=>none
  |k+1,x0,x3,x4=>if x4<(x0.length:Int) then (if 0≤x4 then (if x4<(x3.length:Int) then (laws_toIntS.l0 k x0 (x3.set (x4:Int).toNat (rd x0 x4)) (wrap64 (x4+1))) else (none)) else (none)) else (some x3)
def laws_toIntS.f (k:Nat) (l0:List Int):Option (List Int):=if 0≤(l0.length:Int) then (if ((l0.length:Int):Int).toNat≤35184372088832 then (laws_toIntS.l0 k l0 (List.replicate ((l0.length:Int):Int).toNat 0) 0) else (none)) else (none)
set_option maxHeartbeats 8000000 in
set_option maxRecDepth 100000 in
theorem laws_toIntS.calls (k:Nat) (A0:Option Addr) (c0:Nat) (l0:List Int) (r:List Int) (w:World) (hr0:Kd.C (Kd.int .i64) w A0 l0.length l0) (hc0:l0.length≤c0) (h:laws_toIntS.f k l0=some r) :
    Calls Try.prog 66 #[.slice A0 l0.length c0] w fun e w'=>∃ v0_:Value,e= .returned (v0_)∧Kd.R (Kd.int .i64) 3 w' w.heap.size (fun _=>True) v0_ r∧Below w.heap.size w w':=by
  have HR0:=aM hr0;have HC0:=aM hc0;clear hr0 hc0;have HB:=aM (Below.refl w.heap.size w);have H:(if 0≤(l0.length:Int) then (if ((l0.length:Int):Int).toNat≤35184372088832 then (laws_toIntS.l0 k l0 (List.replicate ((l0.length:Int):Int).toNat 0) 0) else (none)) else (none))=some r:=h;clear h;by_cases c2:0≤(l0.length:Int)
  ·rw [if_pos c2] at H;have c2b0:=eq_true c2;have c2b1:decide (0≤(l0.length:Int))=true:=decide_eq_true c2;clear c2;by_cases c3:((l0.length:Int):Int).toNat≤35184372088832
   ·rw [if_pos c3] at H;have c3b0:=eq_true c3;have c3b1:decide (((l0.length:Int):Int).toNat≤35184372088832)=true:=decide_eq_true c3;clear c3;obtain ⟨y101,hy101⟩:∃ y_:List Int,y_=(List.replicate ((l0.length:Int):Int).toNat 0):=⟨_,rfl⟩;replace H:(laws_toIntS.l0 k l0 y101 0)=some r:=by first|(rw [hy101];with_reducible exact H)|(have H2_:=(Option.bind_some _ _).symm.trans H;rw [hy101];with_reducible exact H2_)|(have H2_:=(Option.bind_some _ _).symm.trans H;with_reducible exact H2_)|with_reducible exact H|(rw [hy101];exact H)|exact H
    have Ny101:=aM hy101;clear hy101;have H':=aM H;clear H;go_enter Try.func66,Try.ntmps66;go_wp2_with (first|((with_reducible refine gate_dst (N:=7) rfl ?_);refine Kd.R_make (Kd.int .i64) _ 3 rfl (N:=7) rfl 23 _ _ rfl (l0.length:Int) rfl rfl Try.underlying23 (.int .i64 0) 8 info3 rfl (by decide) (by omega) 0 (ok:=fun _=>True) (okp:=fun _=>True) rfl (fun _ hk=>hk) trivial (of_decide_eq_true (by first|(with_reducible assumption)|assumption)) (Nat.le_trans (Nat.mul_le_mul_right _ (of_decide_eq_true (by first|(with_reducible assumption)|assumption):(l0.length:Int).toNat≤35184372088832)) (by omega)) (Below.refl _ _) (Nat.le_refl _) ?_;intro v102 w4 ho5 hb hg_ hnew_;clear hg_ hnew_;(first|rw [←Ny101.out] at ho5|(simp only [Int.reduceToNat] at ho5;rw [←Ny101.out] at ho5));have n0_:=aM (Kd.R_lower ho5 (Qj (by repeat (first|(with_reducible first|exact HB.out|apply Qc|apply Qa|apply Qb)|exact HB.out))));have n1_:=aM (Qi (by repeat (first|(with_reducible first|exact HB.out|apply Qc|apply Qa|apply Qb)|exact HB.out)) hb);clear HB;have HO103:=n0_;have HB:=n1_;clear n0_ n1_;clear hb ho5))
    go_loopg [4] k (fun kq v4 w'=>∃ (x3_1:List Int) (x4_1:Int),v4= .int .i64 x4_1∧Aside0 (laws_toIntS.l0 kq l0 x3_1 x4_1=some r)∧Aside0 (kq≤k)∧Aside0 (Kd.R (Kd.int .i64) 3 w' w.heap.size (fun _=>True) v102 x3_1)∧Aside0 (Below w.heap.size w w'))
    case atStart=>exact ⟨(y101),(0),(by first|rfl|(simp;done)|(simp [*];done)),H',⟨Nat.le_refl _⟩,⟨by (with_reducible repeat (first|apply Kd.R_alloc|apply Kd.R_drewN|apply Kd.R_drew));exact HO103.out⟩,⟨by repeat (first|(with_reducible first|exact HB.out|apply Qc|apply Qa|apply Qb)|exact HB.out)⟩⟩
    case round=>
     clear H';(try clear c2);(try clear c2b0);(try clear c2b1);(try clear p2);(try clear c3);(try clear c3b0);(try clear c3b1);obtain ⟨x3_1,x4_1,rfl,HA,HK1,HO_3,HB⟩:=hrel
     cases gk with
     |zero=>exact absurd HA.out (by simp [laws_toIntS.l0])
     |succ k1=>
      have H:=HA.out;clear HA;simp only [laws_toIntS.l0] at H;by_cases c6:x4_1<(l0.length:Int)
      ·rw [if_pos c6] at H;have c6b0:decide (x4_1<(l0.length:Int))=true:=decide_eq_true c6;clear c6;by_cases c7:0≤x4_1
       ·rw [if_pos c7] at H;have c7b0:decide (0≤x4_1)=true:=decide_eq_true c7;clear c7;by_cases c8:x4_1<(x3_1.length:Int)
        ·rw [if_pos c8] at H;have c8b0:decide (x4_1<(x3_1.length:Int))=true:=decide_eq_true c8;clear c8;obtain ⟨y105,hy105⟩:∃ y_:List Int,y_=(x3_1.set (x4_1:Int).toNat (rd l0 x4_1)):=⟨_,rfl⟩;replace H:(laws_toIntS.l0 k1 l0 y105 (wrap64 (x4_1+1)))=some r:=by first|(rw [hy105];with_reducible exact H)|(have H2_:=(Option.bind_some _ _).symm.trans H;rw [hy105];with_reducible exact H2_)|(have H2_:=(Option.bind_some _ _).symm.trans H;with_reducible exact H2_)|with_reducible exact H|(rw [hy105];exact H)|exact H
         have Ny105:=aM hy105;clear hy105;have H':=aM H;clear H;have p104:0≤(x4_1:Int):=of_decide_eq_true (by first|(with_reducible assumption)|assumption);have q104:x4_1<(l0.length:Int):=of_decide_eq_true (by first|(with_reducible assumption)|assumption);obtain ⟨ad104,e104,hx104_0⟩:=Kd.at_int HR0.out x4_1 p104 q104
         cases e104
         replace hx104_0:=(HB.out.cell (aI w _ hx104_0)).trans hx104_0;replace p104:=eq_true p104;replace q104:=eq_true q104;have p9:0≤(x4_1:Int):=of_decide_eq_true (by first|(with_reducible assumption)|assumption);have q9:(x4_1:Int)<((x3_1.length:Int):Int):=of_decide_eq_true (by first|(with_reducible assumption)|assumption);obtain ⟨go9,co9,eo9,gb9,gl9,cl9,HG9⟩:=Kd.R_form HO_3.out (by omega)
         (first|cases eo9|(injection eo9 with ea_ en_ ec_;(first|subst ea_|(injection ea_ with ea_;subst ea_));subst ec_;clear en_))
         have GB9:=aM gb9;have GG9:=aM HG9;clear gb9 gl9 HG9;obtain ⟨hx9_0,hf9_0⟩:=Kd.R_celln 0 HO_3.out (x4_1:Int) p9 q9;replace p9:=eq_true p9;replace q9:=eq_true q9;have HP10:=Kd.R_putg HO_3.out (x4_1:Int) (rd l0 x4_1);go_wp2_with (first|((with_reducible refine gate_store (t:=3) (p:=20) rfl ?_);refine store_event (t:=3) (p:=20) (v:=?vo_w11) (w1:=(wr.setCell ⟨go9,(x4_1:Int).toNat,none⟩ (.int .i64 (rd l0 x4_1)))) ?hg ?ho ?hn ?hr ?_;(case ho=>rfl);(case hg=>rfl);(case hn=>rfl);(case hr=>first|(go_simp;done)|(go_simp;rfl));intro w11 hw;have hg:wr.grownBy w11 (some go9):=(by rw [hw];exact HP10.2);have hp_:Kd.R (Kd.int .i64) 3 w11 w.heap.size (fun _=>True) (.slice (some ⟨go9,0,none⟩) x3_1.length co9) y105:=(by rw [hw,Ny105.out];exact HP10.1);clear HP10;have n0_:=aM (hp_);have n1_:=aM ((by rw [hw];exact Qg (HB.out) GB9.out:Below w.heap.size w w11));clear HO_3;clear HB;have HO_3:=n0_;have HB:=n1_;clear n0_ n1_;clear hg hw hp_))
         go_roundg k1
         case measure=>have:=HK1.out;omega
         case rel=>exact ⟨(y105),(wrap64 (x4_1+1)),(by first|rfl|(simp;done)|(simp [*];done)),H',⟨by have:=HK1.out;omega⟩,⟨by (with_reducible repeat (first|apply Kd.R_alloc|apply Kd.R_drewN|apply Kd.R_drew));exact HO_3.out⟩,⟨by repeat (first|(with_reducible first|exact HB.out|apply Qc|apply Qa|apply Qb)|exact HB.out)⟩⟩
        ·rw [if_neg c8] at H;exact absurd H (by simp)
       ·rw [if_neg c7] at H;exact absurd H (by simp)
      ·rw [if_neg c6] at H;have c6b0:decide (x4_1<(l0.length:Int))=false:=decide_eq_false c6;clear c6;obtain rfl:=Option.some.inj H;go_wp2
       go_ret
       exact ⟨_,by first|rfl|(simp [errW_none,errW_some] <;> rfl)|(simp [*,errW_none,errW_some] <;> rfl),by (with_reducible repeat (first|apply Kd.R_alloc|apply Kd.R_drewN|apply Kd.R_drew));exact HO_3.out,by repeat (first|(with_reducible first|exact HB.out|apply Qc|apply Qa|apply Qb)|exact HB.out)⟩
   ·rw [if_neg c3] at H;exact absurd H (by simp)
  ·rw [if_neg c2] at H;exact absurd H (by simp)

def laws_eqIntSS.l0:Nat→List (List Int)→List (List Int)→Int→Option (Bool)
  |0,_,_,_=>none
  |k+1,x0,x1,x5=>if x5<(x0.length:Int) then (if 0≤x5 then (if x5<(x1.length:Int) then ((laws_eqIntS.f k (rd_L2 x0 x5) (rd_L2 x1 x5)).bind fun t103=>(if t103=true then (laws_eqIntSS.l0 k x0 x1 (wrap64 (x5+1))) else (some false))) else (none)) else (none)) else (some true)
def laws_eqIntSS.f (k:Nat) (l0:List (List Int)) (l1:List (List Int)):Option (Bool):=if (l0.length:Int)=(l1.length:Int) then (laws_eqIntSS.l0 k l0 l1 0) else (some false)
set_option maxHeartbeats 8000000 in
set_option maxRecDepth 100000 in
theorem laws_eqIntSS.calls (k:Nat) (A0:Option Addr) (c0:Nat) (l0:List (List Int)) (A1:Option Addr) (c1:Nat) (l1:List (List Int)) (r:Bool) (w:World) (hr0:Kd.C (Kd.slice 3 (Kd.int .i64)) w A0 l0.length l0) (hc0:l0.length≤c0) (hr1:Kd.C (Kd.slice 3 (Kd.int .i64)) w A1 l1.length l1) (hc1:l1.length≤c1) (h:laws_eqIntSS.f k l0 l1=some r) :
    Calls Try.prog 67 #[.slice A0 l0.length c0,.slice A1 l1.length c1] w fun e w'=>e= .returned (.bool r)∧Drawn0 w w':=by
  have HR0:=aM hr0;have HC0:=aM hc0;clear hr0 hc0;have HR1:=aM hr1;have HC1:=aM hc1;clear hr1 hc1;have H:(if (l0.length:Int)=(l1.length:Int) then (laws_eqIntSS.l0 k l0 l1 0) else (some false))=some r:=h;clear h;by_cases c3:(l0.length:Int)=(l1.length:Int)
  ·rw [if_pos c3] at H;have c3b0:((l0.length:Int) == (l1.length:Int))=true:=beq_iff_eq.mpr c3;have c3b1:((l0.length:Int) != (l1.length:Int))=false:=bne_eq_false_iff_eq.mpr c3;have c3b2:(l0.length == l1.length)=true:=by first|simpa using c3|(simp at c3 ⊢;omega)
   clear c3;have H':=aM H;clear H;go_enter Try.func67,Try.ntmps67;go_wp2
   repeat (go_quiet (fail);try go_wp2)
   go_loopg [5] k (fun kq v5 w'=>∃ (x5_1:Int),v5= .int .i64 x5_1∧Aside0 (laws_eqIntSS.l0 kq l0 l1 x5_1=some r)∧Aside0 (kq≤k)∧Drawn0 w w')
   case atStart=>exact ⟨(0),(by first|rfl|(simp;done)|(simp [*];done)),H',⟨Nat.le_refl _⟩,by repeat (first|exact Drawn0.refl _|apply Drawn0.step)⟩
   case round=>
    clear H';(try clear c1);(try clear p2);(try clear c3);(try clear c3b0);(try clear c3b1);(try clear c3b2);obtain ⟨x5_1,rfl,HA,HK1,⟨m1,rfl⟩⟩:=hrel
    cases gk with
    |zero=>exact absurd HA.out (by simp [laws_eqIntSS.l0])
    |succ k1=>
     have H:=HA.out;clear HA;simp only [laws_eqIntSS.l0] at H;by_cases c4:x5_1<(l0.length:Int)
     ·rw [if_pos c4] at H;have c4b0:decide (x5_1<(l0.length:Int))=true:=decide_eq_true c4;clear c4;by_cases c5:0≤x5_1
      ·rw [if_pos c5] at H;have c5b0:decide (0≤x5_1)=true:=decide_eq_true c5;clear c5;by_cases c6:x5_1<(l1.length:Int)
       ·rw [if_pos c6] at H;have c6b0:decide (x5_1<(l1.length:Int))=true:=decide_eq_true c6;clear c6;replace H:=Option.bind_eq_some_iff.mp H;obtain ⟨t103,A70,H⟩:=H;replace H:(if t103=true then (laws_eqIntSS.l0 k1 l0 l1 (wrap64 (x5_1+1))) else (some false))=some r:=H;have A7:=aM A70;clear A70;by_cases c8:t103=true
        ·subst c8;have H1:(laws_eqIntSS.l0 k1 l0 l1 (wrap64 (x5_1+1)))=some r:=by rw [if_pos rfl] at H;exact H
         clear H;have H:=H1;clear H1;have H':=aM H;clear H;have p101:0≤(x5_1:Int):=of_decide_eq_true (by first|(with_reducible assumption)|assumption);have q101:x5_1<(l0.length:Int):=of_decide_eq_true (by first|(with_reducible assumption)|assumption);obtain ⟨ad101,A101_0,c101_0,e101,hx101_0,hl101_0,hi101_0⟩:=at_L2 HR0.out x5_1 p101 q101
         cases e101
         have HR101_0:=aM hi101_0;have HC101_0:=aM hl101_0;clear hi101_0 hl101_0;replace p101:=eq_true p101;replace q101:=eq_true q101;have p102:0≤(x5_1:Int):=of_decide_eq_true (by first|(with_reducible assumption)|assumption);have q102:x5_1<(l1.length:Int):=of_decide_eq_true (by first|(with_reducible assumption)|assumption);obtain ⟨ad102,A102_0,c102_0,e102,hx102_0,hl102_0,hi102_0⟩:=at_L2 HR1.out x5_1 p102 q102
         cases e102
         have HR102_0:=aM hi102_0;have HC102_0:=aM hl102_0;clear hi102_0 hl102_0;replace p102:=eq_true p102;replace q102:=eq_true q102;go_wp2_with (first|(go_at_call 61;(with_reducible refine (laws_eqIntS.calls k1 _ _ (rd_L2 l0 x5_1) _ _ (rd_L2 l1 x5_1) true _ ?side1 ?side2 ?side3 ?side4 A7.out).mono ?_);(case side1=>repeat (first|exact HR101_0.out|(with_reducible refine Kd.C_alloc ?_ _)|(with_reducible refine Kd.C_drewN ?_ _)|(with_reducible refine Kd.C_drew ?_)));(case side2=>exact HC101_0.out);(case side3=>repeat (first|exact HR102_0.out|(with_reducible refine Kd.C_alloc ?_ _)|(with_reducible refine Kd.C_drewN ?_ _)|(with_reducible refine Kd.C_drew ?_)));(case side4=>exact HC102_0.out);rintro e w' ⟨rfl,⟨nd,rfl⟩⟩;(try first|exact ⟨rfl,_,World.drewN_drewN _ _ _⟩|exact ⟨rfl,_,Eq.trans (World.drewN_drewN _ _ _) (congrArg (World.drewN _) (Nat.add_assoc _ _ _))⟩)))
         repeat (go_quiet (first|(go_at_call 61;(with_reducible refine (laws_eqIntS.calls k1 _ _ (rd_L2 l0 x5_1) _ _ (rd_L2 l1 x5_1) true _ ?side1 ?side2 ?side3 ?side4 A7.out).mono ?_);(case side1=>repeat (first|exact HR101_0.out|(with_reducible refine Kd.C_alloc ?_ _)|(with_reducible refine Kd.C_drewN ?_ _)|(with_reducible refine Kd.C_drew ?_)));(case side2=>exact HC101_0.out);(case side3=>repeat (first|exact HR102_0.out|(with_reducible refine Kd.C_alloc ?_ _)|(with_reducible refine Kd.C_drewN ?_ _)|(with_reducible refine Kd.C_drew ?_)));(case side4=>exact HC102_0.out);rintro e w' ⟨rfl,⟨nd,rfl⟩⟩;(try first|exact ⟨rfl,_,World.drewN_drewN _ _ _⟩|exact ⟨rfl,_,Eq.trans (World.drewN_drewN _ _ _) (congrArg (World.drewN _) (Nat.add_assoc _ _ _))⟩)));try go_wp2_with (first|(go_at_call 61;(with_reducible refine (laws_eqIntS.calls k1 _ _ (rd_L2 l0 x5_1) _ _ (rd_L2 l1 x5_1) true _ ?side1 ?side2 ?side3 ?side4 A7.out).mono ?_);(case side1=>repeat (first|exact HR101_0.out|(with_reducible refine Kd.C_alloc ?_ _)|(with_reducible refine Kd.C_drewN ?_ _)|(with_reducible refine Kd.C_drew ?_)));(case side2=>exact HC101_0.out);(case side3=>repeat (first|exact HR102_0.out|(with_reducible refine Kd.C_alloc ?_ _)|(with_reducible refine Kd.C_drewN ?_ _)|(with_reducible refine Kd.C_drew ?_)));(case side4=>exact HC102_0.out);rintro e w' ⟨rfl,⟨nd,rfl⟩⟩;(try first|exact ⟨rfl,_,World.drewN_drewN _ _ _⟩|exact ⟨rfl,_,Eq.trans (World.drewN_drewN _ _ _) (congrArg (World.drewN _) (Nat.add_assoc _ _ _))⟩))))
         go_roundg k1
         case measure=>have:=HK1.out;omega
         case rel=>exact ⟨(wrap64 (x5_1+1)),(by first|rfl|(simp;done)|(simp [*];done)),H',⟨by have:=HK1.out;omega⟩,by repeat (first|exact Drawn0.refl _|apply Drawn0.step)⟩
        ·replace c8:=Bool.eq_false_iff.mpr c8;subst c8;have H1:(some false)=some r:=by rw [if_neg (show ¬ (false=true) by decide)] at H;exact H
         clear H;have H:=H1;clear H1;obtain rfl:=Option.some.inj H;have p101:0≤(x5_1:Int):=of_decide_eq_true (by first|(with_reducible assumption)|assumption);have q101:x5_1<(l0.length:Int):=of_decide_eq_true (by first|(with_reducible assumption)|assumption);obtain ⟨ad101,A101_0,c101_0,e101,hx101_0,hl101_0,hi101_0⟩:=at_L2 HR0.out x5_1 p101 q101
         cases e101
         have HR101_0:=aM hi101_0;have HC101_0:=aM hl101_0;clear hi101_0 hl101_0;replace p101:=eq_true p101;replace q101:=eq_true q101;have p102:0≤(x5_1:Int):=of_decide_eq_true (by first|(with_reducible assumption)|assumption);have q102:x5_1<(l1.length:Int):=of_decide_eq_true (by first|(with_reducible assumption)|assumption);obtain ⟨ad102,A102_0,c102_0,e102,hx102_0,hl102_0,hi102_0⟩:=at_L2 HR1.out x5_1 p102 q102
         cases e102
         have HR102_0:=aM hi102_0;have HC102_0:=aM hl102_0;clear hi102_0 hl102_0;replace p102:=eq_true p102;replace q102:=eq_true q102;go_wp2_with (first|(go_at_call 61;(with_reducible refine (laws_eqIntS.calls k1 _ _ (rd_L2 l0 x5_1) _ _ (rd_L2 l1 x5_1) false _ ?side1 ?side2 ?side3 ?side4 A7.out).mono ?_);(case side1=>repeat (first|exact HR101_0.out|(with_reducible refine Kd.C_alloc ?_ _)|(with_reducible refine Kd.C_drewN ?_ _)|(with_reducible refine Kd.C_drew ?_)));(case side2=>exact HC101_0.out);(case side3=>repeat (first|exact HR102_0.out|(with_reducible refine Kd.C_alloc ?_ _)|(with_reducible refine Kd.C_drewN ?_ _)|(with_reducible refine Kd.C_drew ?_)));(case side4=>exact HC102_0.out);rintro e w' ⟨rfl,⟨nd,rfl⟩⟩;(try first|exact ⟨rfl,_,World.drewN_drewN _ _ _⟩|exact ⟨rfl,_,Eq.trans (World.drewN_drewN _ _ _) (congrArg (World.drewN _) (Nat.add_assoc _ _ _))⟩)))
         repeat (go_quiet (first|(go_at_call 61;(with_reducible refine (laws_eqIntS.calls k1 _ _ (rd_L2 l0 x5_1) _ _ (rd_L2 l1 x5_1) false _ ?side1 ?side2 ?side3 ?side4 A7.out).mono ?_);(case side1=>repeat (first|exact HR101_0.out|(with_reducible refine Kd.C_alloc ?_ _)|(with_reducible refine Kd.C_drewN ?_ _)|(with_reducible refine Kd.C_drew ?_)));(case side2=>exact HC101_0.out);(case side3=>repeat (first|exact HR102_0.out|(with_reducible refine Kd.C_alloc ?_ _)|(with_reducible refine Kd.C_drewN ?_ _)|(with_reducible refine Kd.C_drew ?_)));(case side4=>exact HC102_0.out);rintro e w' ⟨rfl,⟨nd,rfl⟩⟩;(try first|exact ⟨rfl,_,World.drewN_drewN _ _ _⟩|exact ⟨rfl,_,Eq.trans (World.drewN_drewN _ _ _) (congrArg (World.drewN _) (Nat.add_assoc _ _ _))⟩)));try go_wp2_with (first|(go_at_call 61;(with_reducible refine (laws_eqIntS.calls k1 _ _ (rd_L2 l0 x5_1) _ _ (rd_L2 l1 x5_1) false _ ?side1 ?side2 ?side3 ?side4 A7.out).mono ?_);(case side1=>repeat (first|exact HR101_0.out|(with_reducible refine Kd.C_alloc ?_ _)|(with_reducible refine Kd.C_drewN ?_ _)|(with_reducible refine Kd.C_drew ?_)));(case side2=>exact HC101_0.out);(case side3=>repeat (first|exact HR102_0.out|(with_reducible refine Kd.C_alloc ?_ _)|(with_reducible refine Kd.C_drewN ?_ _)|(with_reducible refine Kd.C_drew ?_)));(case side4=>exact HC102_0.out);rintro e w' ⟨rfl,⟨nd,rfl⟩⟩;(try first|exact ⟨rfl,_,World.drewN_drewN _ _ _⟩|exact ⟨rfl,_,Eq.trans (World.drewN_drewN _ _ _) (congrArg (World.drewN _) (Nat.add_assoc _ _ _))⟩))))
         go_ret
         exact ⟨by first|rfl|(simp;done)|(simp [*];done),by repeat (first|exact Drawn0.refl _|apply Drawn0.step)⟩
       ·rw [if_neg c6] at H;exact absurd H (by simp)
      ·rw [if_neg c5] at H;exact absurd H (by simp)
     ·rw [if_neg c4] at H;have c4b0:decide (x5_1<(l0.length:Int))=false:=decide_eq_false c4;clear c4;obtain rfl:=Option.some.inj H;go_wp2
      repeat (go_quiet (fail);try go_wp2)
      go_ret
      exact ⟨by first|rfl|(simp;done)|(simp [*];done),by repeat (first|exact Drawn0.refl _|apply Drawn0.step)⟩
  ·rw [if_neg c3] at H;have c3b0:((l0.length:Int) == (l1.length:Int))=false:=beq_eq_false_iff_ne.mpr c3;have c3b1:((l0.length:Int) != (l1.length:Int))=true:=bne_iff_ne.mpr c3;have c3b2:(l0.length == l1.length)=false:=by first|simpa using c3|(simp at c3 ⊢;omega)
   obtain rfl:=Option.some.inj H;go_enter Try.func67,Try.ntmps67;go_wp2
   repeat (go_quiet (fail);try go_wp2)
   go_ret
   exact ⟨by first|rfl|(simp;done)|(simp [*];done),by repeat (first|exact Drawn0.refl _|apply Drawn0.step)⟩

-- NEEDS loop.example/g00451/laws.markIntS
def laws_markIntSS.l0:Nat→List (List Int)→Int→Int→Option (Int×List (List Int))
  |0,_,_,_=>none
  |k+1,x0,x1,x5=>if x5<(x0.length:Int) then (if 0≤x5 then ((laws_markIntS.f k (rd_L2 x0 x5) x1).bind fun b=>(laws_markIntSS.l0 k (x0.set (x5:Int).toNat b.2) b.1 (wrap64 (x5+1)))) else (none)) else (some (x1,x0))
def laws_markIntSS.f (k:Nat) (l0:List (List Int)) (a1:Int):Option (Int×List (List Int)):=laws_markIntSS.l0 k l0 a1 0
set_option maxHeartbeats 8000000 in
set_option maxRecDepth 100000 in
theorem laws_markIntSS.calls (k:Nat) (P0_:Nat→Prop) (u9000_:Value) (l0:List (List Int)) (a1:Int) (r1:Int) (r2:List (List Int)) (w0 w:World) (hB:Below w0.heap.size w0 w) (ho0:Kd.S (Kd.slice 3 (Kd.int .i64)) 23 w w0.heap.size P0_ u9000_ l0) (h:laws_markIntSS.f k l0 a1=some (r1,r2)) :
    Calls Try.prog 68 #[u9000_,.int .i64 a1] w fun e w'=>e= .returned (.int .i64 r1)∧Kd.S (Kd.slice 3 (Kd.int .i64)) 23 w' w0.heap.size (fun k_=>(P0_ k_∨w.heap.size≤k_)) u9000_ r2∧Below w0.heap.size w0 w'∧Kept w w' (fun k_=>P0_ k_):=by
  have HO0:=aM ho0;have HK:=aM (Kept.refl w (fun k_=>P0_ k_));have HB:=aM hB;clear hB ho0;have H:(laws_markIntSS.l0 k l0 a1 0)=some (r1,r2):=h;clear h;have H':=aM H;clear H;go_enter Try.func68,Try.ntmps68;go_wp2;go_loopg [1,5] k (fun kq v1 v5 w'=>∃ (x0_1:List (List Int)) (x1_1:Int) (x5_1:Int),v1= .int .i64 x1_1∧v5= .int .i64 x5_1∧Aside0 (laws_markIntSS.l0 kq x0_1 x1_1 x5_1=some (r1,r2))∧Aside0 (kq≤k)∧Aside0 (Kd.S (Kd.slice 3 (Kd.int .i64)) 23 w' w0.heap.size P0_ u9000_ x0_1)∧Aside0 (Kept w w' (fun k_=>P0_ k_))∧Aside0 (Below w0.heap.size w0 w'))
  case atStart=>exact ⟨l0,a1,0,(by first|rfl|(simp;done)|(simp [*];done)),(by first|rfl|(simp;done)|(simp [*];done)),H',⟨Nat.le_refl _⟩,HO0,HK,HB⟩
  case round=>
   clear H';obtain ⟨x0_1,x1_1,x5_1,rfl,rfl,HA,HK1,HO_0,HK,HB⟩:=hrel
   cases gk with
   |zero=>exact absurd HA.out (by simp [laws_markIntSS.l0])
   |succ k1=>
    have H:=HA.out;clear HA;simp only [laws_markIntSS.l0] at H;by_cases c3:x5_1<(x0_1.length:Int)
    · rw [if_pos c3] at H
      have c3b0:decide (x5_1<(x0_1.length:Int))=true:=decide_eq_true c3;by_cases c4:0≤x5_1
      · rw [if_pos c4] at H
        have c4b0:decide (0≤x5_1)=true:=decide_eq_true c4;replace H:=Option.bind_eq_some_iff.mp H;obtain ⟨⟨t1,t2⟩,A60,H⟩:=H;replace H:(laws_markIntSS.l0 k1 (x0_1.set (x5_1:Int).toNat t2) t1 (wrap64 (x5_1+1)))=some (r1,r2):=H;have A6:=aM A60;have H':=aM H;clear A60 H;obtain ⟨go5,co5,eo5,gb5,gl5,cl5,HG5⟩:=Kd.S_form HO_0.out (by omega);subst eo5;clear gb5 gl5 HG5;obtain ⟨u5,oki5,hR5,hc5,ho5,hb5⟩:=Kd.S_lendRow HO_0.out x5_1 c4 c3;obtain ⟨A5,c5,eu5⟩:=Kd.R_slice hR5;subst eu5;have HR5:=aM (show Kd.R (Kd.int .i64) 3 _ w0.heap.size oki5 (.slice A5 (rd_L2 x0_1 x5_1).length c5) (rd_L2 x0_1 x5_1) from hR5);have hx5:_=some (Value.slice A5 (rd_L2 x0_1 x5_1).length c5):=hc5;have HF5:=aM ho5;have HX5:=aM hb5;clear hR5 hc5 ho5 hb5;replace c3:=eq_true c3;replace c4:=eq_true c4;go_wp2_with (first|((with_reducible refine Qh (f:=64) rfl ?_);refine goesL_ (some 17) rfl rfl Try.func64 (by kernel_rfl) rfl #[.slice A5 (rd_L2 x0_1 x5_1).length c5,.int .i64 x1_1] rfl (by (try simp only [aD,aE,aF]);first|done|rfl|(simp only [aG,aH];rfl)) ?_;(with_reducible refine (laws_markIntS.calls _ (fun k_=>some k_=(Value.slice A5 (rd_L2 x0_1 x5_1).length c5).ownBlock) (.slice A5 (rd_L2 x0_1 x5_1).length c5) (rd_L2 x0_1 x5_1) x1_1 t1 t2 w0 _ ?side1 ?side2 A6.out).mono ?_);(case side1=>exact HB.out);(case side2=>exact Kd.R_tight rfl HR5.out);rintro e w' ⟨rfl,hy,hb,hkp⟩;refine ⟨_,rfl,?_⟩;have n0_:=aM (HX5.out w' _ _ t2 hkp (fun k hk=>HR5.out.1 k hk.symm) (Kd.R_reok rfl hy (fun k hk=>HR5.out.1 k hk)) (fun _ h=>h));have n1_:=aM (Kept.then_ HK.out hkp (fun k hk=> .inl (HF5.out k (HR5.out.1 k hk.symm))));have n2_:=aM hb;clear hy hb hkp HX5 HF5 HR5 HO_0 HB HK;have HO_0:=n0_;have HK:=n1_;have HB:=n2_;clear n0_ n1_ n2_))
        go_roundg k1
        case measure=>have:=HK1.out;omega
        case rel=>exact ⟨_,t1,(wrap64 (x5_1+1)),(by first|rfl|(simp;done)|(simp [*];done)),(by first|rfl|(simp;done)|(simp [*];done)),H',⟨by have:=HK1.out;omega⟩,HO_0,HK,HB⟩
      · rw [if_neg c4] at H
        exact absurd H (by simp)
    · rw [if_neg c3] at H
      have c3b0:decide (x5_1<(x0_1.length:Int))=false:=decide_eq_false c3;clear c3;simp only [Option.some.injEq,Prod.mk.injEq] at H;obtain ⟨rfl,rfl⟩:=H;obtain ⟨Ao9,co9,eo9⟩:=Kd.R_slice (Kd.S_R HO_0.out);subst eo9;go_wp2
      go_ret
      exact ⟨by first|rfl|(simp;done)|(simp [*];done),Kd.S_mono HO_0.out (fun _ h=> .inl h),HB.out,HK.out⟩

def laws_heldIntS.l0:Nat→List Int→Int→Int→Option (Int)
  |0,_,_,_=>none
  |k+1,x0,x1,x5=>if x5<(x0.length:Int) then (if 0≤x5 then (if (rd x0 x5)=x1 then (laws_heldIntS.l0 k x0 (wrap64 (x1+1)) (wrap64 (x5+1))) else (some (-1))) else (none)) else (some x1)
def laws_heldIntS.f (k:Nat) (l0:List Int) (a1:Int):Option (Int):=laws_heldIntS.l0 k l0 a1 0
set_option maxHeartbeats 8000000 in
set_option maxRecDepth 100000 in
theorem laws_heldIntS.calls (k:Nat) (A0:Option Addr) (c0:Nat) (l0:List Int) (a1:Int) (r:Int) (w:World) (hr0:Kd.C (Kd.int .i64) w A0 l0.length l0) (hc0:l0.length≤c0) (h:laws_heldIntS.f k l0 a1=some r) :
    Calls Try.prog 65 #[.slice A0 l0.length c0,.int .i64 a1] w fun e w'=>e= .returned (.int .i64 r)∧Drawn0 w w':=by
  have HR0:=aM hr0;have HC0:=aM hc0;clear hr0 hc0;have H:(laws_heldIntS.l0 k l0 a1 0)=some r:=h;clear h;have H':=aM H;clear H;go_enter Try.func65,Try.ntmps65;go_wp2;go_loopg [1,5] k (fun kq v1 v5 w'=>∃ (x1_1:Int) (x5_1:Int),v1= .int .i64 x1_1∧v5= .int .i64 x5_1∧Aside0 (laws_heldIntS.l0 kq l0 x1_1 x5_1=some r)∧Aside0 (kq≤k)∧Drawn0 w w')
  case atStart=>exact ⟨(a1),(0),(by first|rfl|(simp;done)|(simp [*];done)),(by first|rfl|(simp;done)|(simp [*];done)),H',⟨Nat.le_refl _⟩,by repeat (first|exact Drawn0.refl _|apply Drawn0.step)⟩
  case round=>
   clear H';(try clear p2);obtain ⟨x1_1,x5_1,rfl,rfl,HA,HK1,⟨m1,rfl⟩⟩:=hrel
   cases gk with
   |zero=>exact absurd HA.out (by simp [laws_heldIntS.l0])
   |succ k1=>
    have H:=HA.out;clear HA;simp only [laws_heldIntS.l0] at H;by_cases c3:x5_1<(l0.length:Int)
    ·rw [if_pos c3] at H;have c3b0:decide (x5_1<(l0.length:Int))=true:=decide_eq_true c3;clear c3;by_cases c4:0≤x5_1
     ·rw [if_pos c4] at H;have c4b0:decide (0≤x5_1)=true:=decide_eq_true c4;clear c4;by_cases c5:(rd l0 x5_1)=x1_1
      ·rw [if_pos c5] at H;have c5b0:((rd l0 x5_1) == x1_1)=true:=beq_iff_eq.mpr c5;have c5b1:((rd l0 x5_1) != x1_1)=false:=bne_eq_false_iff_eq.mpr c5;clear c5;have H':=aM H;clear H;have p101:0≤(x5_1:Int):=of_decide_eq_true (by first|(with_reducible assumption)|assumption);have q101:x5_1<(l0.length:Int):=of_decide_eq_true (by first|(with_reducible assumption)|assumption);obtain ⟨ad101,e101,hx101_0⟩:=Kd.at_int HR0.out x5_1 p101 q101
       cases e101
       replace p101:=eq_true p101;replace q101:=eq_true q101;go_wp2;go_roundg k1
       case measure=>have:=HK1.out;omega
       case rel=>exact ⟨(wrap64 (x1_1+1)),(wrap64 (x5_1+1)),(by first|rfl|(simp;done)|(simp [*];done)),(by first|rfl|(simp;done)|(simp [*];done)),H',⟨by have:=HK1.out;omega⟩,by repeat (first|exact Drawn0.refl _|apply Drawn0.step)⟩
      ·rw [if_neg c5] at H;have c5b0:((rd l0 x5_1) == x1_1)=false:=beq_eq_false_iff_ne.mpr c5;have c5b1:((rd l0 x5_1) != x1_1)=true:=bne_iff_ne.mpr c5;obtain rfl:=Option.some.inj H;have p101:0≤(x5_1:Int):=of_decide_eq_true (by first|(with_reducible assumption)|assumption);have q101:x5_1<(l0.length:Int):=of_decide_eq_true (by first|(with_reducible assumption)|assumption);obtain ⟨ad101,e101,hx101_0⟩:=Kd.at_int HR0.out x5_1 p101 q101
       cases e101
       replace p101:=eq_true p101;replace q101:=eq_true q101;go_wp2
       go_ret
       exact ⟨by first|rfl|(simp;done)|(simp [*];done),by repeat (first|exact Drawn0.refl _|apply Drawn0.step)⟩
     ·rw [if_neg c4] at H;exact absurd H (by simp)
    ·rw [if_neg c3] at H;have c3b0:decide (x5_1<(l0.length:Int))=false:=decide_eq_false c3;clear c3;obtain rfl:=Option.some.inj H;go_wp2
     go_ret
     exact ⟨by first|rfl|(simp;done)|(simp [*];done),by repeat (first|exact Drawn0.refl _|apply Drawn0.step)⟩

def laws_heldIntSS.l0:Nat→List (List Int)→Int→Int→Option (Int)
  |0,_,_,_=>none
  |k+1,x0,x1,x5=>if x5<(x0.length:Int) then (if 0≤x5 then ((laws_heldIntS.f k (rd_L2 x0 x5) x1).bind fun t102=>(if t102<0 then (some (-1)) else (laws_heldIntSS.l0 k x0 t102 (wrap64 (x5+1))))) else (none)) else (some x1)
def laws_heldIntSS.f (k:Nat) (l0:List (List Int)) (a1:Int):Option (Int):=laws_heldIntSS.l0 k l0 a1 0
set_option maxHeartbeats 8000000 in
set_option maxRecDepth 100000 in
theorem laws_heldIntSS.calls (k:Nat) (A0:Option Addr) (c0:Nat) (l0:List (List Int)) (a1:Int) (r:Int) (w:World) (hr0:Kd.C (Kd.slice 3 (Kd.int .i64)) w A0 l0.length l0) (hc0:l0.length≤c0) (h:laws_heldIntSS.f k l0 a1=some r) :
    Calls Try.prog 69 #[.slice A0 l0.length c0,.int .i64 a1] w fun e w'=>e= .returned (.int .i64 r)∧Drawn0 w w':=by
  have HR0:=aM hr0;have HC0:=aM hc0;clear hr0 hc0;have H:(laws_heldIntSS.l0 k l0 a1 0)=some r:=h;clear h;have H':=aM H;clear H;go_enter Try.func69,Try.ntmps69;go_wp2;go_loopg [1,5] k (fun kq v1 v5 w'=>∃ (x1_1:Int) (x5_1:Int),v1= .int .i64 x1_1∧v5= .int .i64 x5_1∧Aside0 (laws_heldIntSS.l0 kq l0 x1_1 x5_1=some r)∧Aside0 (kq≤k)∧Drawn0 w w')
  case atStart=>exact ⟨(a1),(0),(by first|rfl|(simp;done)|(simp [*];done)),(by first|rfl|(simp;done)|(simp [*];done)),H',⟨Nat.le_refl _⟩,by repeat (first|exact Drawn0.refl _|apply Drawn0.step)⟩
  case round=>
   clear H';(try clear p2);obtain ⟨x1_1,x5_1,rfl,rfl,HA,HK1,⟨m1,rfl⟩⟩:=hrel
   cases gk with
   |zero=>exact absurd HA.out (by simp [laws_heldIntSS.l0])
   |succ k1=>
    have H:=HA.out;clear HA;simp only [laws_heldIntSS.l0] at H;by_cases c3:x5_1<(l0.length:Int)
    ·rw [if_pos c3] at H;have c3b0:decide (x5_1<(l0.length:Int))=true:=decide_eq_true c3;clear c3;by_cases c4:0≤x5_1
     ·rw [if_pos c4] at H;have c4b0:decide (0≤x5_1)=true:=decide_eq_true c4;clear c4;replace H:=Option.bind_eq_some_iff.mp H;obtain ⟨t102,A50,H⟩:=H;replace H:(if t102<0 then (some (-1)) else (laws_heldIntSS.l0 k1 l0 t102 (wrap64 (x5_1+1))))=some r:=H;have A5:=aM A50;clear A50;by_cases c6:t102<0
      ·rw [if_pos c6] at H;have c6b0:decide (t102<0)=true:=decide_eq_true c6;clear c6;obtain rfl:=Option.some.inj H;have p101:0≤(x5_1:Int):=of_decide_eq_true (by first|(with_reducible assumption)|assumption);have q101:x5_1<(l0.length:Int):=of_decide_eq_true (by first|(with_reducible assumption)|assumption);obtain ⟨ad101,A101_0,c101_0,e101,hx101_0,hl101_0,hi101_0⟩:=at_L2 HR0.out x5_1 p101 q101
       cases e101
       have HR101_0:=aM hi101_0;have HC101_0:=aM hl101_0;clear hi101_0 hl101_0;replace p101:=eq_true p101;replace q101:=eq_true q101;go_wp2_with (first|((with_reducible refine Qh (f:=65) rfl ?_);refine goesL_ (some 17) rfl rfl Try.func65 (by kernel_rfl) rfl #[.slice A101_0 (rd_L2 l0 x5_1).length c101_0,.int .i64 x1_1] rfl (by (try simp only [aD,aE,aF]);first|done|rfl|(simp only [aG,aH];rfl)) ?_;(with_reducible refine (laws_heldIntS.calls k1 _ _ (rd_L2 l0 x5_1) x1_1 t102 _ ?side1 ?side2 A5.out).mono ?_);(case side1=>repeat (first|exact HR101_0.out|(with_reducible refine Kd.C_alloc ?_ _)|(with_reducible refine Kd.C_drewN ?_ _)|(with_reducible refine Kd.C_drew ?_)));(case side2=>exact HC101_0.out);rintro e w' ⟨rfl,⟨nd,rfl⟩⟩;refine ⟨_,rfl,?_⟩))
       go_ret
       exact ⟨by first|rfl|(simp;done)|(simp [*];done),by repeat (first|exact Drawn0.refl _|apply Drawn0.step)⟩
      ·rw [if_neg c6] at H;have c6b0:decide (t102<0)=false:=decide_eq_false c6;clear c6;have H':=aM H;clear H;have p101:0≤(x5_1:Int):=of_decide_eq_true (by first|(with_reducible assumption)|assumption);have q101:x5_1<(l0.length:Int):=of_decide_eq_true (by first|(with_reducible assumption)|assumption);obtain ⟨ad101,A101_0,c101_0,e101,hx101_0,hl101_0,hi101_0⟩:=at_L2 HR0.out x5_1 p101 q101
       cases e101
       have HR101_0:=aM hi101_0;have HC101_0:=aM hl101_0;clear hi101_0 hl101_0;replace p101:=eq_true p101;replace q101:=eq_true q101;go_wp2_with (first|((with_reducible refine Qh (f:=65) rfl ?_);refine goesL_ (some 17) rfl rfl Try.func65 (by kernel_rfl) rfl #[.slice A101_0 (rd_L2 l0 x5_1).length c101_0,.int .i64 x1_1] rfl (by (try simp only [aD,aE,aF]);first|done|rfl|(simp only [aG,aH];rfl)) ?_;(with_reducible refine (laws_heldIntS.calls k1 _ _ (rd_L2 l0 x5_1) x1_1 t102 _ ?side1 ?side2 A5.out).mono ?_);(case side1=>repeat (first|exact HR101_0.out|(with_reducible refine Kd.C_alloc ?_ _)|(with_reducible refine Kd.C_drewN ?_ _)|(with_reducible refine Kd.C_drew ?_)));(case side2=>exact HC101_0.out);rintro e w' ⟨rfl,⟨nd,rfl⟩⟩;refine ⟨_,rfl,?_⟩))
       go_roundg k1
       case measure=>have:=HK1.out;omega
       case rel=>exact ⟨(t102),(wrap64 (x5_1+1)),(by first|rfl|(simp;done)|(simp [*];done)),(by first|rfl|(simp;done)|(simp [*];done)),H',⟨by have:=HK1.out;omega⟩,by repeat (first|exact Drawn0.refl _|apply Drawn0.step)⟩
     ·rw [if_neg c4] at H;exact absurd H (by simp)
    ·rw [if_neg c3] at H;have c3b0:decide (x5_1<(l0.length:Int))=false:=decide_eq_false c3;clear c3;obtain rfl:=Option.some.inj H;go_wp2
     go_ret
     exact ⟨by first|rfl|(simp;done)|(simp [*];done),by repeat (first|exact Drawn0.refl _|apply Drawn0.step)⟩

theorem laws_FnExactShareMore.low {α:Type} {d:Kd α} {e base:Nat} {W:World} {ok:Nat→Prop} {v:Value} {xs:List α} (h:Kd.S d e W base ok v xs):Kd.S d e W base (fun k_=>k_<W.heap.size∧ok k_) v xs:=Kd.S_mono (Kd.S_bound h) (fun _ hk=>⟨hk.2.2.1,hk.1⟩)
theorem laws_FnExactShareMore.high {α:Type} {d:Kd α} {e base:Nat} {W:World} {ok:Nat→Prop} {v:Value} {xs:List α} (h:Kd.S d e W base ok v xs):Kd.S d e W base (fun k_=>base≤k_) v xs:=Kd.S_mono (Kd.S_bound h) (fun _ hk=>hk.2.1)
mutual
def laws_FnExactShareMore.j0:Nat→List Int→Int→List (List Int)→Bool→List Int→List (List Int)→Bool→Bool→Option (Bool)
  |0,_,_,_,_,_,_,_,_=>none
  |k+1,x0,x1,x5,x6,x7,x8,x9,x41=>if x41=true then (some false) else ((laws_toIntS.f k x0).bind fun t116=>((laws_eqIntS.f k x7 t116).bind fun t119=>(if t119=true then ((laws_markIntS.f k x7 1).bind fun bt120=>(if bt120.1<0 then (laws_FnExactShareMore.j1 k x0 x1 x5 x6 x8 true) else ((laws_eqIntSS.f k x8 x5).bind fun t122=>(if t122=true then (laws_FnExactShareMore.j1 k x0 x1 x5 x6 x8 (x9 != x6)) else (laws_FnExactShareMore.j1 k x0 x1 x5 x6 x8 true))))) else (some false))))
def laws_FnExactShareMore.j1:Nat→List Int→Int→List (List Int)→Bool→List (List Int)→Bool→Option (Bool)
  |0,_,_,_,_,_,_=>none
  |k+1,x0,x1,x5,x6,x8,x62=>if x62=true then (some false) else ((laws_markIntSS.f k x8 1).bind fun bt123=>((laws_heldIntSS.f k bt123.2 1).bind fun t125=>(if t125<0 then (some false) else (if t125=bt123.1 then ((laws_toIntS.f k x0).bind fun t126=>((impl_ShareMore.f k t126 x1).bind fun bt129=>((laws_eqIntSS.f k bt129.1 x5).bind fun t133=>(if t133=true then (laws_FnExactShareMore.j2 k bt123.2 bt123.1 (bt129.2 != x6)) else (laws_FnExactShareMore.j2 k bt123.2 bt123.1 true))))) else (some false)))))
def laws_FnExactShareMore.j2:Nat→List (List Int)→Int→Bool→Option (Bool)
  |0,_,_,_=>none
  |k+1,x8,x11,x89=>if x89=true then (some false) else ((laws_heldIntSS.f k x8 1).bind fun t134=>(if t134<0 then (some false) else (if t134=x11 then (some true) else (some false))))
end
def laws_FnExactShareMore.f (k:Nat) (l0:List Int) (a1:Int):Option (Bool):=if (l0.length:Int) > 1048576 then (some true) else ((laws_toIntS.f k l0).bind fun t101=>((spec_ShareMore.f k t101 a1).bind fun bt104=>((laws_toIntS.f k l0).bind fun t108=>((impl_ShareMore.f k t108 a1).bind fun bt111=>((laws_eqIntSS.f k bt111.1 bt104.1).bind fun t115=>(if t115=true then (laws_FnExactShareMore.j0 k l0 a1 bt104.1 bt104.2 t108 bt111.1 bt111.2 (bt111.2 != bt104.2)) else (laws_FnExactShareMore.j0 k l0 a1 bt104.1 bt104.2 t108 bt111.1 bt111.2 true)))))))
set_option maxHeartbeats 8000000 in
set_option maxRecDepth 100000 in
theorem laws_FnExactShareMore.calls (k:Nat) (A0:Option Addr) (c0:Nat) (l0:List Int) (a1:Int) (r:Bool) (w:World) (hr0:Kd.C (Kd.int .i64) w A0 l0.length l0) (hc0:l0.length≤c0) (h:laws_FnExactShareMore.f k l0 a1=some r) :
    Calls Try.prog 8 #[.slice A0 l0.length c0,.int .i64 a1] w fun e w'=>e= .returned (.bool r)∧Below w.heap.size w w':=by
  have HR0:=aM hr0;have HC0:=aM hc0;clear hr0 hc0;have HB:=aM (Below.refl w.heap.size w);have H:(if (l0.length:Int) > 1048576 then (some true) else ((laws_toIntS.f k l0).bind fun t101=>((spec_ShareMore.f k t101 a1).bind fun bt104=>((laws_toIntS.f k l0).bind fun t108=>((impl_ShareMore.f k t108 a1).bind fun bt111=>((laws_eqIntSS.f k bt111.1 bt104.1).bind fun t115=>(if t115=true then (laws_FnExactShareMore.j0 k l0 a1 bt104.1 bt104.2 t108 bt111.1 bt111.2 (bt111.2 != bt104.2)) else (laws_FnExactShareMore.j0 k l0 a1 bt104.1 bt104.2 t108 bt111.1 bt111.2 true))))))))=some r:=h;clear h;by_cases c3:(l0.length:Int) > 1048576
  ·rw [if_pos c3] at H;have c3b0:decide (1048576<(l0.length:Int))=true:=decide_eq_true c3;have c3b1:decide (1048576<l0.length)=true:=decide_eq_true (by omega);clear c3;obtain rfl:=Option.some.inj H;go_enter Try.func8,Try.ntmps8;go_wp2
   go_ret
   exact ⟨by first|rfl|(simp [errW_none,errW_some] <;> rfl)|(simp [*,errW_none,errW_some] <;> rfl),by repeat (first|(with_reducible first|exact HB.out|apply Qc|apply Qa|apply Qb)|exact HB.out)⟩
  ·rw [if_neg c3] at H;have c3b0:decide (1048576<(l0.length:Int))=false:=decide_eq_false c3;have c3b1:decide (1048576<l0.length)=false:=decide_eq_false (by omega);clear c3;replace H:=Option.bind_eq_some_iff.mp H;obtain ⟨t101,A40,H⟩:=H;replace H:((spec_ShareMore.f k t101 a1).bind fun bt104=>((laws_toIntS.f k l0).bind fun t108=>((impl_ShareMore.f k t108 a1).bind fun bt111=>((laws_eqIntSS.f k bt111.1 bt104.1).bind fun t115=>(if t115=true then (laws_FnExactShareMore.j0 k l0 a1 bt104.1 bt104.2 t108 bt111.1 bt111.2 (bt111.2 != bt104.2)) else (laws_FnExactShareMore.j0 k l0 a1 bt104.1 bt104.2 t108 bt111.1 bt111.2 true))))))=some r:=H;have A4:=aM A40;clear A40;replace H:=Option.bind_eq_some_iff.mp H;obtain ⟨⟨t104,t105⟩,A50,H⟩:=H;replace H:((laws_toIntS.f k l0).bind fun t108=>((impl_ShareMore.f k t108 a1).bind fun bt111=>((laws_eqIntSS.f k bt111.1 t104).bind fun t115=>(if t115=true then (laws_FnExactShareMore.j0 k l0 a1 t104 t105 t108 bt111.1 bt111.2 (bt111.2 != t105)) else (laws_FnExactShareMore.j0 k l0 a1 t104 t105 t108 bt111.1 bt111.2 true)))))=some r:=H;have A5:=aM A50;clear A50;replace H:=Option.bind_eq_some_iff.mp H;obtain ⟨t108,A60,H⟩:=H;replace H:((impl_ShareMore.f k t108 a1).bind fun bt111=>((laws_eqIntSS.f k bt111.1 t104).bind fun t115=>(if t115=true then (laws_FnExactShareMore.j0 k l0 a1 t104 t105 t108 bt111.1 bt111.2 (bt111.2 != t105)) else (laws_FnExactShareMore.j0 k l0 a1 t104 t105 t108 bt111.1 bt111.2 true))))=some r:=H;have A6:=aM A60;clear A60;replace H:=Option.bind_eq_some_iff.mp H;obtain ⟨⟨t111,t112⟩,A70,H⟩:=H;replace H:((laws_eqIntSS.f k t111 t104).bind fun t115=>(if t115=true then (laws_FnExactShareMore.j0 k l0 a1 t104 t105 t108 t111 t112 (t112 != t105)) else (laws_FnExactShareMore.j0 k l0 a1 t104 t105 t108 t111 t112 true)))=some r:=H;have A7:=aM A70;clear A70;have HC8:=aM H;clear H;go_enter Try.func8,Try.ntmps8
   go_upto_region 6 with (first|((with_reducible refine Qh (f:=66) rfl ?_);refine goesL_ (some 20) rfl rfl Try.func66 (by kernel_rfl) rfl #[.slice A0 l0.length c0] rfl (by (try simp only [aD,aE,aF]);first|done|rfl|(simp only [aG,aH];rfl)) ?_;(with_reducible refine (laws_toIntS.calls k _ _ l0 t101 _ ?side1 ?side2 A4.out).mono ?_);(case side1=>repeat (first|exact HR0.out|(with_reducible refine Kd.C_alloc ?_ _)|(with_reducible refine Kd.C_drewN ?_ _)|(with_reducible refine Kd.C_drew ?_)));(case side2=>exact HC0.out);rintro e w9 ⟨v102,rfl,ho0,hb⟩;refine ⟨_,rfl,?_⟩;have n0_:=aM (Kd.R_lower ho0 (Qj (by repeat (first|(with_reducible first|exact HB.out|apply Qc|apply Qa|apply Qb)|exact HB.out))));have n1_:=aM (Qi (by repeat (first|(with_reducible first|exact HB.out|apply Qc|apply Qa|apply Qb)|exact HB.out)) hb);clear HB;have HO103:=n0_;have HB:=n1_;clear n0_ n1_;(try clear hb);(try clear hb2);(try clear hk);(try clear hi);(try clear ho0);obtain ⟨Ao10,co10,eo10⟩:=Kd.R_slice HO103.out;subst eo10)|((with_reducible refine Qh (f:=19) rfl ?_);refine goesL_ (some 22) rfl rfl Try.func19 (by kernel_rfl) rfl #[.slice Ao10 t101.length co10,.int .i64 a1] rfl (by (try simp only [aD,aE,aF]);first|done|rfl|(simp only [aG,aH];rfl)) ?_;(with_reducible refine (spec_ShareMore.calls k _ _ t101 a1 t104 t105 _ ?side1 ?side2 A5.out).mono ?_);(case side1=>repeat (first|exact (Kd.R_reads' HO103.out).2.2|(with_reducible refine Kd.C_alloc ?_ _)|(with_reducible refine Kd.C_drewN ?_ _)|(with_reducible refine Kd.C_drew ?_)));(case side2=>exact (Kd.R_reads' HO103.out).2.1);rintro e w11 ⟨v106,rfl,ho0,hb⟩;refine ⟨_,rfl,?_⟩;have n0_:=aM (Kd.R_below (by (with_reducible repeat (first|apply Kd.R_alloc|apply Kd.R_drewN|apply Kd.R_drew));exact HO103.out) hb);have n1_:=aM (Kd.S_lower (Kd.S_new' ho0 (Kd.R_lt (by (with_reducible repeat (first|apply Kd.R_alloc|apply Kd.R_drewN|apply Kd.R_drew));exact HO103.out))) (Qj (by repeat (first|(with_reducible first|exact HB.out|apply Qc|apply Qa|apply Qb)|exact HB.out))));have n2_:=aM (Qi (by repeat (first|(with_reducible first|exact HB.out|apply Qc|apply Qa|apply Qb)|exact HB.out)) hb);clear HO103;clear HB;have HO103:=n0_;have HO107:=n1_;have HB:=n2_;clear n0_ n1_ n2_;(try clear hb);(try clear hb2);(try clear hk);(try clear hi);(try clear ho0))|((with_reducible refine Qh (f:=66) rfl ?_);refine goesL_ (some 26) rfl rfl Try.func66 (by kernel_rfl) rfl #[.slice A0 l0.length c0] rfl (by (try simp only [aD,aE,aF]);first|done|rfl|(simp only [aG,aH];rfl)) ?_;(with_reducible refine (laws_toIntS.calls k _ _ l0 t108 _ ?side1 ?side2 A6.out).mono ?_);(case side1=>repeat (first|exact (Kd.C_below HR0.out HB.out)|(with_reducible refine Kd.C_alloc ?_ _)|(with_reducible refine Kd.C_drewN ?_ _)|(with_reducible refine Kd.C_drew ?_)));(case side2=>exact HC0.out);rintro e w12 ⟨v109,rfl,ho0,hb⟩;refine ⟨_,rfl,?_⟩;have n0_:=aM (Kd.R_elder' (by (with_reducible repeat (first|apply Kd.R_alloc|apply Kd.R_drewN|apply Kd.R_drew));exact HO103.out) (Kd.R_base ho0) hb);have n1_:=aM (Kd.S_elder' (by (with_reducible repeat (first|apply Kd.S_alloc|apply Kd.S_drewN|apply Kd.S_drew));exact HO107.out) (Kd.R_base ho0) hb);have n2_:=aM (Kd.R_lower (Kd.R_new' ho0 (Kd.R_lt (by (with_reducible repeat (first|apply Kd.R_alloc|apply Kd.R_drewN|apply Kd.R_drew));exact HO103.out))) (Qj (by repeat (first|(with_reducible first|exact HB.out|apply Qc|apply Qa|apply Qb)|exact HB.out))));have n3_:=aM (Qi (by repeat (first|(with_reducible first|exact HB.out|apply Qc|apply Qa|apply Qb)|exact HB.out)) hb);clear HO103;clear HO107;clear HB;have HO103:=n0_;have HO107:=n1_;have HO110:=n2_;have HB:=n3_;clear n0_ n1_ n2_ n3_;(try clear hb);(try clear hb2);(try clear hk);(try clear hi);(try clear ho0);obtain ⟨Ao13,co13,eo13⟩:=Kd.R_slice HO110.out;subst eo13)|((with_reducible refine Qh (f:=18) rfl ?_);refine goesL_ (some 30) rfl rfl Try.func18 (by kernel_rfl) rfl #[.slice Ao13 t108.length co13,.int .i64 a1] rfl (by (try simp only [aD,aE,aF]);first|done|rfl|(simp only [aG,aH];rfl)) ?_;(with_reducible refine (impl_ShareMore.calls k _ _ t108 a1 t111 t112 _ ?side1 ?side2 A7.out).mono ?_);(case side1=>repeat (first|exact (Kd.R_reads' HO110.out).2.2|(with_reducible refine Kd.C_alloc ?_ _)|(with_reducible refine Kd.C_drewN ?_ _)|(with_reducible refine Kd.C_drew ?_)));(case side2=>exact (Kd.R_reads' HO110.out).2.1);rintro e w14 ⟨v113,rfl,ho0,hb⟩;refine ⟨_,rfl,?_⟩;have n0_:=aM (Kd.R_below (by (with_reducible repeat (first|apply Kd.R_alloc|apply Kd.R_drewN|apply Kd.R_drew));exact HO103.out) hb);have n1_:=aM (Kd.S_elder' (by (with_reducible repeat (first|apply Kd.S_alloc|apply Kd.S_drewN|apply Kd.S_drew));exact laws_FnExactShareMore.low HO107.out) (Kd.S_base ho0) hb);have n2_:=aM (Kd.R_below (by (with_reducible repeat (first|apply Kd.R_alloc|apply Kd.R_drewN|apply Kd.R_drew));exact HO110.out) hb);have n3_:=aM (Kd.S_lower (Kd.S_new' (Kd.S_new' (Kd.S_new' (laws_FnExactShareMore.high ho0) (Kd.R_lt (by (with_reducible repeat (first|apply Kd.R_alloc|apply Kd.R_drewN|apply Kd.R_drew));exact HO103.out))) (Kd.S_lt (by (with_reducible repeat (first|apply Kd.S_alloc|apply Kd.S_drewN|apply Kd.S_drew));exact HO107.out))) (Kd.R_lt (by (with_reducible repeat (first|apply Kd.R_alloc|apply Kd.R_drewN|apply Kd.R_drew));exact HO110.out))) (Qj (by repeat (first|(with_reducible first|exact HB.out|apply Qc|apply Qa|apply Qb)|exact HB.out))));have n4_:=aM (Qi (by repeat (first|(with_reducible first|exact HB.out|apply Qc|apply Qa|apply Qb)|exact HB.out)) hb);clear HO103;clear HO107;clear HO110;clear HB;have HO103:=n0_;have HO107:=n1_;have HO110:=n2_;have HO114:=n3_;have HB:=n4_;clear n0_ n1_ n2_ n3_ n4_;(try clear hb);(try clear hb2);(try clear hk);(try clear hi);(try clear ho0)))
   (try simp only [Act.put,aA,aB,aC])
   go_cut [41] (fun v41 wc=>∃ (Z_:Nat) (kq:Nat) (x41_7:Bool),v41= .bool x41_7∧Aside0 (laws_FnExactShareMore.j0 kq l0 a1 t104 t105 t108 t111 t112 x41_7=some r)∧Aside0 (kq≤k)∧Aside0 (Kd.S (Kd.slice 3 (Kd.int .i64)) 23 wc w.heap.size (fun k_=>k_<Z_∧some k_≠((.slice Ao13 t108.length co13):Value).ownBlock∧some k_≠(v113:Value).ownBlock) v106 t104)∧Aside0 (Kd.R (Kd.int .i64) 3 wc w.heap.size (fun _=>True) (.slice Ao13 t108.length co13) t108)∧Aside0 (Kd.S (Kd.slice 3 (Kd.int .i64)) 23 wc w.heap.size (fun k_=>Z_≤k_∧some k_≠(v106:Value).ownBlock∧some k_≠((.slice Ao13 t108.length co13):Value).ownBlock) v113 t111)∧Aside0 (Below w.heap.size w wc))
   case first=>
    have H:=HC8.out;clear HC8;replace H:=Option.bind_eq_some_iff.mp H;obtain ⟨t115,A150,H⟩:=H;replace H:(if t115=true then (laws_FnExactShareMore.j0 k l0 a1 t104 t105 t108 t111 t112 (t112 != t105)) else (laws_FnExactShareMore.j0 k l0 a1 t104 t105 t108 t111 t112 true))=some r:=H;have A15:=aM A150;clear A150;by_cases c16:t115=true
    ·subst c16;have H1:(laws_FnExactShareMore.j0 k l0 a1 t104 t105 t108 t111 t112 (t112 != t105))=some r:=by rw [if_pos rfl] at H;exact H
     clear H;have H:=H1;clear H1;have H':=aM H;clear H;obtain ⟨Ao17,co17,eo17⟩:=Kd.S_slice HO114.out;subst eo17;obtain ⟨Ao18,co18,eo18⟩:=Kd.S_slice HO107.out;subst eo18;go_wp2_with (first|((with_reducible refine Qh (f:=67) rfl ?_);refine goesL_ (some 35) rfl rfl Try.func67 (by kernel_rfl) rfl #[.slice Ao17 t111.length co17,.slice Ao18 t104.length co18] rfl (by (try simp only [aD,aE,aF]);first|done|rfl|(simp only [aG,aH];rfl)) ?_;(with_reducible refine (laws_eqIntSS.calls k _ _ t111 _ _ t104 true _ ?side1 ?side2 ?side3 ?side4 A15.out).mono ?_);(case side1=>repeat (first|exact (Kd.S_reads' HO114.out).2.2|(with_reducible refine Kd.C_alloc ?_ _)|(with_reducible refine Kd.C_drewN ?_ _)|(with_reducible refine Kd.C_drew ?_)));(case side2=>exact (Kd.S_reads' HO114.out).2.1);(case side3=>repeat (first|exact (Kd.S_reads' HO107.out).2.2|(with_reducible refine Kd.C_alloc ?_ _)|(with_reducible refine Kd.C_drewN ?_ _)|(with_reducible refine Kd.C_drew ?_)));(case side4=>exact (Kd.S_reads' HO107.out).2.1);rintro e w' ⟨rfl,⟨nd,rfl⟩⟩;refine ⟨_,rfl,?_⟩))
     go_meet
     case rel=>exact ⟨_,_,((t112 != t105)),(by first|rfl|(simp;done)|(simp [*];done)),H',⟨by first|omega|exact Nat.le_refl _⟩,⟨by (with_reducible repeat (first|apply Kd.S_alloc|apply Kd.S_drewN|apply Kd.S_drew));exact Kd.S_mono HO107.out (fun _ hk=>⟨hk.1.1,hk.1.2.2,hk.2⟩)⟩,⟨by (with_reducible repeat (first|apply Kd.R_alloc|apply Kd.R_drewN|apply Kd.R_drew));exact Kd.R_mono HO110.out (fun _ hk=>trivial)⟩,⟨by (with_reducible repeat (first|apply Kd.S_alloc|apply Kd.S_drewN|apply Kd.S_drew));exact Kd.S_mono HO114.out (fun _ hk=>⟨hk.1.1.1,hk.1.2,hk.2⟩)⟩,⟨by repeat (first|(with_reducible first|exact HB.out|apply Qc|apply Qa|apply Qb)|exact HB.out)⟩⟩
    ·replace c16:=Bool.eq_false_iff.mpr c16;subst c16;have H1:(laws_FnExactShareMore.j0 k l0 a1 t104 t105 t108 t111 t112 true)=some r:=by rw [if_neg (show ¬ (false=true) by decide)] at H;exact H
     clear H;have H:=H1;clear H1;have H':=aM H;clear H;obtain ⟨Ao19,co19,eo19⟩:=Kd.S_slice HO114.out;subst eo19;obtain ⟨Ao20,co20,eo20⟩:=Kd.S_slice HO107.out;subst eo20;go_wp2_with (first|((with_reducible refine Qh (f:=67) rfl ?_);refine goesL_ (some 35) rfl rfl Try.func67 (by kernel_rfl) rfl #[.slice Ao19 t111.length co19,.slice Ao20 t104.length co20] rfl (by (try simp only [aD,aE,aF]);first|done|rfl|(simp only [aG,aH];rfl)) ?_;(with_reducible refine (laws_eqIntSS.calls k _ _ t111 _ _ t104 false _ ?side1 ?side2 ?side3 ?side4 A15.out).mono ?_);(case side1=>repeat (first|exact (Kd.S_reads' HO114.out).2.2|(with_reducible refine Kd.C_alloc ?_ _)|(with_reducible refine Kd.C_drewN ?_ _)|(with_reducible refine Kd.C_drew ?_)));(case side2=>exact (Kd.S_reads' HO114.out).2.1);(case side3=>repeat (first|exact (Kd.S_reads' HO107.out).2.2|(with_reducible refine Kd.C_alloc ?_ _)|(with_reducible refine Kd.C_drewN ?_ _)|(with_reducible refine Kd.C_drew ?_)));(case side4=>exact (Kd.S_reads' HO107.out).2.1);rintro e w' ⟨rfl,⟨nd,rfl⟩⟩;refine ⟨_,rfl,?_⟩))
     go_meet
     case rel=>exact ⟨_,_,(true),(by first|rfl|(simp;done)|(simp [*];done)),H',⟨by first|omega|exact Nat.le_refl _⟩,⟨by (with_reducible repeat (first|apply Kd.S_alloc|apply Kd.S_drewN|apply Kd.S_drew));exact Kd.S_mono HO107.out (fun _ hk=>⟨hk.1.1,hk.1.2.2,hk.2⟩)⟩,⟨by (with_reducible repeat (first|apply Kd.R_alloc|apply Kd.R_drewN|apply Kd.R_drew));exact Kd.R_mono HO110.out (fun _ hk=>trivial)⟩,⟨by (with_reducible repeat (first|apply Kd.S_alloc|apply Kd.S_drewN|apply Kd.S_drew));exact Kd.S_mono HO114.out (fun _ hk=>⟨hk.1.1.1,hk.1.2,hk.2⟩)⟩,⟨by repeat (first|(with_reducible first|exact HB.out|apply Qc|apply Qa|apply Qb)|exact HB.out)⟩⟩
   case rest=>
    clear HC8;(try clear c1);(try clear p2);(try clear c3);(try clear c3b0);(try clear c3b1);(try clear c6);(try clear c8);(try clear c16);(try clear c18);(try clear c19);obtain ⟨Z_,kq,x41_7,rfl,HA,HJ7,HO_5,HO_7,HO_8,HB⟩:=hcut
    cases kq with
    |zero=>exact absurd HA.out (by simp [laws_FnExactShareMore.j0])
    |succ kj7=>
     have H:=HA.out;clear HA;simp only [laws_FnExactShareMore.j0] at H;by_cases c21:x41_7=true
     ·subst c21;have H1:(some false)=some r:=by rw [if_pos rfl] at H;exact H
      clear H;have H:=H1;clear H1;obtain rfl:=Option.some.inj H;go_wp2
      go_ret
      exact ⟨by first|rfl|(simp [errW_none,errW_some] <;> rfl)|(simp [*,errW_none,errW_some] <;> rfl),by repeat (first|(with_reducible first|exact HB.out|apply Qc|apply Qa|apply Qb)|exact HB.out)⟩
     ·replace c21:=Bool.eq_false_iff.mpr c21;subst c21;have H1:((laws_toIntS.f kj7 l0).bind fun t116=>((laws_eqIntS.f kj7 t108 t116).bind fun t119=>(if t119=true then ((laws_markIntS.f kj7 t108 1).bind fun bt120=>(if bt120.1<0 then (laws_FnExactShareMore.j1 kj7 l0 a1 t104 t105 t111 true) else ((laws_eqIntSS.f kj7 t111 t104).bind fun t122=>(if t122=true then (laws_FnExactShareMore.j1 kj7 l0 a1 t104 t105 t111 (t112 != t105)) else (laws_FnExactShareMore.j1 kj7 l0 a1 t104 t105 t111 true))))) else (some false))))=some r:=by rw [if_neg (show ¬ (false=true) by decide)] at H;exact H
      clear H;have H:=H1;clear H1;replace H:=Option.bind_eq_some_iff.mp H;obtain ⟨t116,A220,H⟩:=H;replace H:((laws_eqIntS.f kj7 t108 t116).bind fun t119=>(if t119=true then ((laws_markIntS.f kj7 t108 1).bind fun bt120=>(if bt120.1<0 then (laws_FnExactShareMore.j1 kj7 l0 a1 t104 t105 t111 true) else ((laws_eqIntSS.f kj7 t111 t104).bind fun t122=>(if t122=true then (laws_FnExactShareMore.j1 kj7 l0 a1 t104 t105 t111 (t112 != t105)) else (laws_FnExactShareMore.j1 kj7 l0 a1 t104 t105 t111 true))))) else (some false)))=some r:=H;have A22:=aM A220;clear A220;replace H:=Option.bind_eq_some_iff.mp H;obtain ⟨t119,A230,H⟩:=H;replace H:(if t119=true then ((laws_markIntS.f kj7 t108 1).bind fun bt120=>(if bt120.1<0 then (laws_FnExactShareMore.j1 kj7 l0 a1 t104 t105 t111 true) else ((laws_eqIntSS.f kj7 t111 t104).bind fun t122=>(if t122=true then (laws_FnExactShareMore.j1 kj7 l0 a1 t104 t105 t111 (t112 != t105)) else (laws_FnExactShareMore.j1 kj7 l0 a1 t104 t105 t111 true))))) else (some false))=some r:=H;have A23:=aM A230;clear A230;by_cases c24:t119=true
      ·subst c24;have H1:((laws_markIntS.f kj7 t108 1).bind fun bt120=>(if bt120.1<0 then (laws_FnExactShareMore.j1 kj7 l0 a1 t104 t105 t111 true) else ((laws_eqIntSS.f kj7 t111 t104).bind fun t122=>(if t122=true then (laws_FnExactShareMore.j1 kj7 l0 a1 t104 t105 t111 (t112 != t105)) else (laws_FnExactShareMore.j1 kj7 l0 a1 t104 t105 t111 true)))))=some r:=by rw [if_pos rfl] at H;exact H
       clear H;have H:=H1;clear H1;replace H:=Option.bind_eq_some_iff.mp H;obtain ⟨⟨t120,t121⟩,A250,H⟩:=H;replace H:(if t120<0 then (laws_FnExactShareMore.j1 kj7 l0 a1 t104 t105 t111 true) else ((laws_eqIntSS.f kj7 t111 t104).bind fun t122=>(if t122=true then (laws_FnExactShareMore.j1 kj7 l0 a1 t104 t105 t111 (t112 != t105)) else (laws_FnExactShareMore.j1 kj7 l0 a1 t104 t105 t111 true))))=some r:=H;have A25:=aM A250;clear A250;have HC26:=aM H;clear H
       go_upto_region 12 with (first|((with_reducible refine Qh (f:=66) rfl ?_);refine goesL_ (some 44) rfl rfl Try.func66 (by kernel_rfl) rfl #[.slice A0 l0.length c0] rfl (by (try simp only [aD,aE,aF]);first|done|rfl|(simp only [aG,aH];rfl)) ?_;(with_reducible refine (laws_toIntS.calls kj7 _ _ l0 t116 _ ?side1 ?side2 A22.out).mono ?_);(case side1=>repeat (first|exact (Kd.C_below HR0.out HB.out)|(with_reducible refine Kd.C_alloc ?_ _)|(with_reducible refine Kd.C_drewN ?_ _)|(with_reducible refine Kd.C_drew ?_)));(case side2=>exact HC0.out);rintro e w27 ⟨v117,rfl,ho0,hb⟩;refine ⟨_,rfl,?_⟩;have n0_:=aM (Kd.S_elder' (by (with_reducible repeat (first|apply Kd.S_alloc|apply Kd.S_drewN|apply Kd.S_drew));exact HO_5.out) (Kd.R_base ho0) hb);have n1_:=aM (Kd.R_elder' (by (with_reducible repeat (first|apply Kd.R_alloc|apply Kd.R_drewN|apply Kd.R_drew));exact HO_7.out) (Kd.R_base ho0) hb);have n2_:=aM (Kd.S_elder' (by (with_reducible repeat (first|apply Kd.S_alloc|apply Kd.S_drewN|apply Kd.S_drew));exact HO_8.out) (Kd.R_base ho0) hb);have n3_:=aM (Kd.R_lower (Kd.R_new' ho0 (Kd.R_lt (by (with_reducible repeat (first|apply Kd.R_alloc|apply Kd.R_drewN|apply Kd.R_drew));exact HO_7.out))) (Qj (by repeat (first|(with_reducible first|exact HB.out|apply Qc|apply Qa|apply Qb)|exact HB.out))));have n4_:=aM (Qi (by repeat (first|(with_reducible first|exact HB.out|apply Qc|apply Qa|apply Qb)|exact HB.out)) hb);clear HO_5;clear HO_7;clear HO_8;clear HB;have HO_5:=n0_;have HO_7:=n1_;have HO_8:=n2_;have HO118:=n3_;have HB:=n4_;clear n0_ n1_ n2_ n3_ n4_;(try clear hb);(try clear hb2);(try clear hk);(try clear hi);(try clear ho0);obtain ⟨Ao28,co28,eo28⟩:=Kd.R_slice HO118.out;subst eo28)|((with_reducible refine Qh (f:=61) rfl ?_);refine goesL_ (some 45) rfl rfl Try.func61 (by kernel_rfl) rfl #[.slice Ao13 t108.length co13,.slice Ao28 t116.length co28] rfl (by (try simp only [aD,aE,aF]);first|done|rfl|(simp only [aG,aH];rfl)) ?_;(with_reducible refine (laws_eqIntS.calls kj7 _ _ t108 _ _ t116 true _ ?side1 ?side2 ?side3 ?side4 A23.out).mono ?_);(case side1=>repeat (first|exact (Kd.R_reads' HO_7.out).2.2|(with_reducible refine Kd.C_alloc ?_ _)|(with_reducible refine Kd.C_drewN ?_ _)|(with_reducible refine Kd.C_drew ?_)));(case side2=>exact (Kd.R_reads' HO_7.out).2.1);(case side3=>repeat (first|exact (Kd.R_reads' HO118.out).2.2|(with_reducible refine Kd.C_alloc ?_ _)|(with_reducible refine Kd.C_drewN ?_ _)|(with_reducible refine Kd.C_drew ?_)));(case side4=>exact (Kd.R_reads' HO118.out).2.1);rintro e w' ⟨rfl,⟨nd,rfl⟩⟩;refine ⟨_,rfl,?_⟩)|((with_reducible refine Qh (f:=64) rfl ?_);refine goesL_ (some 49) rfl rfl Try.func64 (by kernel_rfl) rfl #[.slice Ao13 t108.length co13,.int .i64 1] rfl (by (try simp only [aD,aE,aF]);first|done|rfl|(simp only [aG,aH];rfl)) ?_;(with_reducible refine (laws_markIntS.calls kj7 (fun k_=>some k_=(.slice Ao13 t108.length co13:Value).ownBlock) (.slice Ao13 t108.length co13) t108 1 t120 t121 w _ ?side1 ?side2 A25.out).mono ?_);(case side1=>repeat (first|(with_reducible first|exact HB.out|apply Qc|apply Qa|apply Qb)|exact HB.out));(case side2=>exact Kd.R_tight rfl HO_7.out);rintro e w29 ⟨rfl,hy0,hb,hkp⟩;refine ⟨_,rfl,?_⟩;have n0_:=aM (Kd.S_mono (ok':=fun k_=>k_<Z_∧some k_≠(.slice Ao13 t108.length co13:Value).ownBlock∧some k_≠(v113:Value).ownBlock∧some k_≠(.slice Ao28 t116.length co28:Value).ownBlock) (Kd.S_keptB (HO_5.out) hkp (fun k_ hk_ hs_=>(hk_.1.2.1) hs_)) (fun k_ hk_=>⟨hk_.1.1.1,hk_.1.1.2.1,hk_.1.1.2.2,hk_.1.2⟩));have n1_:=aM (Kd.R_reok rfl hy0 (fun k_ e_=>HO_7.out.1 k_ e_));have n2_:=aM (Kd.S_mono (ok':=fun k_=>Z_≤k_∧some k_≠(v106:Value).ownBlock∧some k_≠(.slice Ao13 t108.length co13:Value).ownBlock∧some k_≠(.slice Ao28 t116.length co28:Value).ownBlock) (Kd.S_keptB (HO_8.out) hkp (fun k_ hk_ hs_=>(hk_.1.2.2) hs_)) (fun k_ hk_=>⟨hk_.1.1.1,hk_.1.1.2.1,hk_.1.1.2.2,hk_.1.2⟩));have n3_:=aM (Kd.R_mono (ok':=fun k_=>some k_≠(.slice Ao13 t108.length co13:Value).ownBlock) (Kd.R_keptB (HO118.out) hkp (fun k_ hk_ hs_=>(hk_.2) hs_)) (fun k_ hk_=>hk_.1.2));have n4_:=aM (hb);clear HO_5;clear HO_7;clear HO_8;clear HO118;clear HB;have HO_5:=n0_;have HO_7:=n1_;have HO_8:=n2_;have HO118:=n3_;have HB:=n4_;clear n0_ n1_ n2_ n3_ n4_;(try clear hb);(try clear hkp);(try clear hy0)))
       (try simp only [Act.put,aA,aB,aC])
       go_cut [62] (fun v62 wc=>∃ (kq:Nat) (x62_25:Bool),v62= .bool x62_25∧Aside0 (laws_FnExactShareMore.j1 kq l0 a1 t104 t105 t111 x62_25=some r)∧Aside0 (kq≤kj7)∧Aside0 (Kd.S (Kd.slice 3 (Kd.int .i64)) 23 wc w.heap.size (fun k_=>k_<Z_∧some k_≠(v113:Value).ownBlock) v106 t104)∧Aside0 (Kd.S (Kd.slice 3 (Kd.int .i64)) 23 wc w.heap.size (fun k_=>Z_≤k_∧some k_≠(v106:Value).ownBlock) v113 t111)∧Aside0 (Below w.heap.size w wc))
       case first=>
        have H:=HC26.out;clear HC26;by_cases c30:t120<0
        ·rw [if_pos c30] at H;have c30b0:decide (t120<0)=true:=decide_eq_true c30;clear c30
         (first|rw [c30b0]|(simp only [i64_w,i32_w];rw [c30b0])|skip)
         have H':=aM H;clear H;go_wp2
         go_meet
         case rel=>exact ⟨_,(true),(by first|rfl|(simp;done)|(simp [*];done)),H',⟨by have:=HJ7.out;first|omega|exact Nat.le_refl _⟩,⟨by (with_reducible repeat (first|apply Kd.S_alloc|apply Kd.S_drewN|apply Kd.S_drew));exact Kd.S_mono HO_5.out (fun _ hk=>⟨hk.1,hk.2.2.1⟩)⟩,⟨by (with_reducible repeat (first|apply Kd.S_alloc|apply Kd.S_drewN|apply Kd.S_drew));exact Kd.S_mono HO_8.out (fun _ hk=>⟨hk.1,hk.2.1⟩)⟩,⟨by repeat (first|(with_reducible first|exact HB.out|apply Qc|apply Qa|apply Qb)|exact HB.out)⟩⟩
        ·rw [if_neg c30] at H;have c30b0:decide (t120<0)=false:=decide_eq_false c30;clear c30
         (first|rw [c30b0]|(simp only [i64_w,i32_w];rw [c30b0])|skip)
         replace H:=Option.bind_eq_some_iff.mp H;obtain ⟨t122,A310,H⟩:=H;replace H:(if t122=true then (laws_FnExactShareMore.j1 kj7 l0 a1 t104 t105 t111 (t112 != t105)) else (laws_FnExactShareMore.j1 kj7 l0 a1 t104 t105 t111 true))=some r:=H;have A31:=aM A310;clear A310;by_cases c32:t122=true
         ·subst c32;have H1:(laws_FnExactShareMore.j1 kj7 l0 a1 t104 t105 t111 (t112 != t105))=some r:=by rw [if_pos rfl] at H;exact H
          clear H;have H:=H1;clear H1;have H':=aM H;clear H;obtain ⟨Ao33,co33,eo33⟩:=Kd.S_slice HO_8.out;subst eo33;obtain ⟨Ao34,co34,eo34⟩:=Kd.S_slice HO_5.out;subst eo34;go_wp2_with (first|(go_at_call 67;(with_reducible refine (laws_eqIntSS.calls kj7 _ _ t111 _ _ t104 true _ ?side1 ?side2 ?side3 ?side4 A31.out).mono ?_);(case side1=>repeat (first|exact (Kd.S_reads' HO_8.out).2.2|(with_reducible refine Kd.C_alloc ?_ _)|(with_reducible refine Kd.C_drewN ?_ _)|(with_reducible refine Kd.C_drew ?_)));(case side2=>exact (Kd.S_reads' HO_8.out).2.1);(case side3=>repeat (first|exact (Kd.S_reads' HO_5.out).2.2|(with_reducible refine Kd.C_alloc ?_ _)|(with_reducible refine Kd.C_drewN ?_ _)|(with_reducible refine Kd.C_drew ?_)));(case side4=>exact (Kd.S_reads' HO_5.out).2.1);rintro e w' ⟨rfl,⟨nd,rfl⟩⟩))
          go_meet
          case rel=>exact ⟨_,((t112 != t105)),(by first|rfl|(simp;done)|(simp [*];done)),H',⟨by have:=HJ7.out;first|omega|exact Nat.le_refl _⟩,⟨by (with_reducible repeat (first|apply Kd.S_alloc|apply Kd.S_drewN|apply Kd.S_drew));exact Kd.S_mono HO_5.out (fun _ hk=>⟨hk.1,hk.2.2.1⟩)⟩,⟨by (with_reducible repeat (first|apply Kd.S_alloc|apply Kd.S_drewN|apply Kd.S_drew));exact Kd.S_mono HO_8.out (fun _ hk=>⟨hk.1,hk.2.1⟩)⟩,⟨by repeat (first|(with_reducible first|exact HB.out|apply Qc|apply Qa|apply Qb)|exact HB.out)⟩⟩
         ·replace c32:=Bool.eq_false_iff.mpr c32;subst c32;have H1:(laws_FnExactShareMore.j1 kj7 l0 a1 t104 t105 t111 true)=some r:=by rw [if_neg (show ¬ (false=true) by decide)] at H;exact H
          clear H;have H:=H1;clear H1;have H':=aM H;clear H;obtain ⟨Ao35,co35,eo35⟩:=Kd.S_slice HO_8.out;subst eo35;obtain ⟨Ao36,co36,eo36⟩:=Kd.S_slice HO_5.out;subst eo36;go_wp2_with (first|(go_at_call 67;(with_reducible refine (laws_eqIntSS.calls kj7 _ _ t111 _ _ t104 false _ ?side1 ?side2 ?side3 ?side4 A31.out).mono ?_);(case side1=>repeat (first|exact (Kd.S_reads' HO_8.out).2.2|(with_reducible refine Kd.C_alloc ?_ _)|(with_reducible refine Kd.C_drewN ?_ _)|(with_reducible refine Kd.C_drew ?_)));(case side2=>exact (Kd.S_reads' HO_8.out).2.1);(case side3=>repeat (first|exact (Kd.S_reads' HO_5.out).2.2|(with_reducible refine Kd.C_alloc ?_ _)|(with_reducible refine Kd.C_drewN ?_ _)|(with_reducible refine Kd.C_drew ?_)));(case side4=>exact (Kd.S_reads' HO_5.out).2.1);rintro e w' ⟨rfl,⟨nd,rfl⟩⟩))
          go_meet
          case rel=>exact ⟨_,(true),(by first|rfl|(simp;done)|(simp [*];done)),H',⟨by have:=HJ7.out;first|omega|exact Nat.le_refl _⟩,⟨by (with_reducible repeat (first|apply Kd.S_alloc|apply Kd.S_drewN|apply Kd.S_drew));exact Kd.S_mono HO_5.out (fun _ hk=>⟨hk.1,hk.2.2.1⟩)⟩,⟨by (with_reducible repeat (first|apply Kd.S_alloc|apply Kd.S_drewN|apply Kd.S_drew));exact Kd.S_mono HO_8.out (fun _ hk=>⟨hk.1,hk.2.1⟩)⟩,⟨by repeat (first|(with_reducible first|exact HB.out|apply Qc|apply Qa|apply Qb)|exact HB.out)⟩⟩
       case rest=>
        clear HC26;(try clear c1);(try clear c2);(try clear p2);(try clear c3);(try clear c3b0);(try clear c3b1);(try clear c6);(try clear c8);(try clear c16);(try clear c18);(try clear c19);(try clear c21);(try clear c24);(try clear c30);(try clear c30b0);(try clear c32);(try clear p2);obtain ⟨kq,x62_25,rfl,HA,HJ25,HO_5,HO_8,HB⟩:=hcut
        cases kq with
        |zero=>exact absurd HA.out (by simp [laws_FnExactShareMore.j1])
        |succ kj25=>
         have H:=HA.out;clear HA;simp only [laws_FnExactShareMore.j1] at H;by_cases c37:x62_25=true
         ·subst c37;have H1:(some false)=some r:=by rw [if_pos rfl] at H;exact H
          clear H;have H:=H1;clear H1;obtain rfl:=Option.some.inj H;go_wp2
          go_ret
          exact ⟨by first|rfl|(simp [errW_none,errW_some] <;> rfl)|(simp [*,errW_none,errW_some] <;> rfl),by repeat (first|(with_reducible first|exact HB.out|apply Qc|apply Qa|apply Qb)|exact HB.out)⟩
         ·replace c37:=Bool.eq_false_iff.mpr c37;subst c37;have H1:((laws_markIntSS.f kj25 t111 1).bind fun bt123=>((laws_heldIntSS.f kj25 bt123.2 1).bind fun t125=>(if t125<0 then (some false) else (if t125=bt123.1 then ((laws_toIntS.f kj25 l0).bind fun t126=>((impl_ShareMore.f kj25 t126 a1).bind fun bt129=>((laws_eqIntSS.f kj25 bt129.1 t104).bind fun t133=>(if t133=true then (laws_FnExactShareMore.j2 kj25 bt123.2 bt123.1 (bt129.2 != t105)) else (laws_FnExactShareMore.j2 kj25 bt123.2 bt123.1 true))))) else (some false)))))=some r:=by rw [if_neg (show ¬ (false=true) by decide)] at H;exact H
          clear H;have H:=H1;clear H1;replace H:=Option.bind_eq_some_iff.mp H;obtain ⟨⟨t123,t124⟩,A380,H⟩:=H;replace H:((laws_heldIntSS.f kj25 t124 1).bind fun t125=>(if t125<0 then (some false) else (if t125=t123 then ((laws_toIntS.f kj25 l0).bind fun t126=>((impl_ShareMore.f kj25 t126 a1).bind fun bt129=>((laws_eqIntSS.f kj25 bt129.1 t104).bind fun t133=>(if t133=true then (laws_FnExactShareMore.j2 kj25 t124 t123 (bt129.2 != t105)) else (laws_FnExactShareMore.j2 kj25 t124 t123 true))))) else (some false))))=some r:=H;have A38:=aM A380;clear A380;replace H:=Option.bind_eq_some_iff.mp H;obtain ⟨t125,A390,H⟩:=H;replace H:(if t125<0 then (some false) else (if t125=t123 then ((laws_toIntS.f kj25 l0).bind fun t126=>((impl_ShareMore.f kj25 t126 a1).bind fun bt129=>((laws_eqIntSS.f kj25 bt129.1 t104).bind fun t133=>(if t133=true then (laws_FnExactShareMore.j2 kj25 t124 t123 (bt129.2 != t105)) else (laws_FnExactShareMore.j2 kj25 t124 t123 true))))) else (some false)))=some r:=H;have A39:=aM A390;clear A390;by_cases c40:t125<0
          ·rw [if_pos c40] at H;have c40b0:decide (t125<0)=true:=decide_eq_true c40;clear c40;obtain rfl:=Option.some.inj H;obtain ⟨Ao41,co41,eo41⟩:=Kd.S_slice HO_8.out;subst eo41;obtain ⟨Qh42,hqs_,hqo_,hqt_,hqb_⟩:=Kd.S_named HO_8.out;have Qh42S:=aM hqs_;have Qh42O:=aM hqo_;have Qh42T:=aM hqt_;have Qh42B:=aM hqb_;clear hqs_ hqo_ hqt_ hqb_;go_wp2_with (first|((with_reducible refine Qh (f:=68) rfl ?_);refine goesL_ (some 65) rfl rfl Try.func68 (by kernel_rfl) rfl #[.slice Ao41 t111.length co41,.int .i64 1] rfl (by (try simp only [aD,aE,aF]);first|done|rfl|(simp only [aG,aH];rfl)) ?_;(with_reducible refine (laws_markIntSS.calls kj25 Qh42 (.slice Ao41 t111.length co41) t111 1 t123 t124 w _ ?side1 ?side2 A38.out).mono ?_);(case side1=>repeat (first|(with_reducible first|exact HB.out|apply Qc|apply Qa|apply Qb)|exact HB.out));(case side2=>exact Qh42S.out);rintro e w43 ⟨rfl,hy0,hb,hkp⟩;refine ⟨_,rfl,?_⟩;have n0_:=aM (Kd.S_mono (ok':=fun k_=>some k_≠(v106:Value).ownBlock) hy0 (fun k_ h_=>Or.elim h_ (fun hq_=>((Qh42O.out k_ hq_).2)) (fun hn_=>(fun e_=>(Kd.S_ltB HO_5.out hn_) e_))));have n1_:=aM (hb);have nw_:=aM (Kd.S_mono (ok':=fun _=>True) (Kd.S_keptB (HO_5.out) hkp (fun k_ hk_ hs_=>Nat.not_le.2 hk_.1 ((Qh42O.out k_ hs_).1))) (fun _ _=>trivial));clear HO_8;clear HB;clear HO_5;have HO_5:=nw_;have HO_8:=n0_;have HB:=n1_;clear n0_ n1_ nw_;(try clear hb);(try clear hkp);(try clear hy0))|((with_reducible refine Qh (f:=69) rfl ?_);refine goesL_ (some 68) rfl rfl Try.func69 (by kernel_rfl) rfl #[.slice Ao41 t124.length co41,.int .i64 1] rfl (by (try simp only [aD,aE,aF]);first|done|(rw [show t124.length=t111.length from (Kd.S_reads' HO_8.out).1.symm] <;> rfl)|rfl|(simp only [aG,aH];rfl)) ?_;(with_reducible refine (laws_heldIntSS.calls kj25 _ _ t124 1 t125 _ ?side1 ?side2 A39.out).mono ?_);(case side1=>repeat (first|exact (Kd.S_reads' HO_8.out).2.2|(with_reducible refine Kd.C_alloc ?_ _)|(with_reducible refine Kd.C_drewN ?_ _)|(with_reducible refine Kd.C_drew ?_)));(case side2=>rw [show t124.length=t111.length from (Kd.S_reads' HO_8.out).1.symm];exact (Kd.S_reads' HO_8.out).2.1);rintro e w' ⟨rfl,⟨nd,rfl⟩⟩;refine ⟨_,rfl,?_⟩))
           go_ret
           exact ⟨by first|rfl|(simp [errW_none,errW_some] <;> rfl)|(simp [*,errW_none,errW_some] <;> rfl),by repeat (first|(with_reducible first|exact HB.out|apply Qc|apply Qa|apply Qb)|exact HB.out)⟩
          ·rw [if_neg c40] at H;have c40b0:decide (t125<0)=false:=decide_eq_false c40;clear c40;by_cases c44:t125=t123
           ·rw [if_pos c44] at H;have c44b0:(t125 == t123)=true:=beq_iff_eq.mpr c44;have c44b1:(t125 != t123)=false:=bne_eq_false_iff_eq.mpr c44;clear c44;replace H:=Option.bind_eq_some_iff.mp H;obtain ⟨t126,A450,H⟩:=H;replace H:((impl_ShareMore.f kj25 t126 a1).bind fun bt129=>((laws_eqIntSS.f kj25 bt129.1 t104).bind fun t133=>(if t133=true then (laws_FnExactShareMore.j2 kj25 t124 t123 (bt129.2 != t105)) else (laws_FnExactShareMore.j2 kj25 t124 t123 true))))=some r:=H;have A45:=aM A450;clear A450;replace H:=Option.bind_eq_some_iff.mp H;obtain ⟨⟨t129,t130⟩,A460,H⟩:=H;replace H:((laws_eqIntSS.f kj25 t129 t104).bind fun t133=>(if t133=true then (laws_FnExactShareMore.j2 kj25 t124 t123 (t130 != t105)) else (laws_FnExactShareMore.j2 kj25 t124 t123 true)))=some r:=H;have A46:=aM A460;clear A460;have HC47:=aM H;clear H;obtain ⟨Ao48,co48,eo48⟩:=Kd.S_slice HO_8.out;subst eo48;obtain ⟨Qh49,hqs_,hqo_,hqt_,hqb_⟩:=Kd.S_named HO_8.out;have Qh49S:=aM hqs_;have Qh49O:=aM hqo_;have Qh49T:=aM hqt_;have Qh49B:=aM hqb_;clear hqs_ hqo_ hqt_ hqb_
            go_upto_region 23 with (first|((with_reducible refine Qh (f:=68) rfl ?_);refine goesL_ (some 65) rfl rfl Try.func68 (by kernel_rfl) rfl #[.slice Ao48 t111.length co48,.int .i64 1] rfl (by (try simp only [aD,aE,aF]);first|done|rfl|(simp only [aG,aH];rfl)) ?_;(with_reducible refine (laws_markIntSS.calls kj25 Qh49 (.slice Ao48 t111.length co48) t111 1 t123 t124 w _ ?side1 ?side2 A38.out).mono ?_);(case side1=>repeat (first|(with_reducible first|exact HB.out|apply Qc|apply Qa|apply Qb)|exact HB.out));(case side2=>exact Qh49S.out);rintro e w50 ⟨rfl,hy0,hb,hkp⟩;refine ⟨_,rfl,?_⟩;have n0_:=aM (Kd.S_mono (ok':=fun k_=>some k_≠(v106:Value).ownBlock) hy0 (fun k_ h_=>Or.elim h_ (fun hq_=>((Qh49O.out k_ hq_).2)) (fun hn_=>(fun e_=>(Kd.S_ltB HO_5.out hn_) e_))));have n1_:=aM (hb);have nw_:=aM (Kd.S_mono (ok':=fun _=>True) (Kd.S_keptB (HO_5.out) hkp (fun k_ hk_ hs_=>Nat.not_le.2 hk_.1 ((Qh49O.out k_ hs_).1))) (fun _ _=>trivial));clear HO_8;clear HB;clear HO_5;have HO_5:=nw_;have HO_8:=n0_;have HB:=n1_;clear n0_ n1_ nw_;(try clear hb);(try clear hkp);(try clear hy0))|((with_reducible refine Qh (f:=69) rfl ?_);refine goesL_ (some 68) rfl rfl Try.func69 (by kernel_rfl) rfl #[.slice Ao48 t124.length co48,.int .i64 1] rfl (by (try simp only [aD,aE,aF]);first|done|(rw [show t124.length=t111.length from (Kd.S_reads' HO_8.out).1.symm] <;> rfl)|rfl|(simp only [aG,aH];rfl)) ?_;(with_reducible refine (laws_heldIntSS.calls kj25 _ _ t124 1 t125 _ ?side1 ?side2 A39.out).mono ?_);(case side1=>repeat (first|exact (Kd.S_reads' HO_8.out).2.2|(with_reducible refine Kd.C_alloc ?_ _)|(with_reducible refine Kd.C_drewN ?_ _)|(with_reducible refine Kd.C_drew ?_)));(case side2=>rw [show t124.length=t111.length from (Kd.S_reads' HO_8.out).1.symm];exact (Kd.S_reads' HO_8.out).2.1);rintro e w' ⟨rfl,⟨nd,rfl⟩⟩;refine ⟨_,rfl,?_⟩)|((with_reducible refine Qh (f:=66) rfl ?_);refine goesL_ (some 76) rfl rfl Try.func66 (by kernel_rfl) rfl #[.slice A0 l0.length c0] rfl (by (try simp only [aD,aE,aF]);first|done|rfl|(simp only [aG,aH];rfl)) ?_;(with_reducible refine (laws_toIntS.calls kj25 _ _ l0 t126 _ ?side1 ?side2 A45.out).mono ?_);(case side1=>repeat (first|exact (Kd.C_below HR0.out (by repeat (first|(with_reducible first|exact HB.out|apply Qc|apply Qa|apply Qb)|exact HB.out)))|(with_reducible refine Kd.C_alloc ?_ _)|(with_reducible refine Kd.C_drewN ?_ _)|(with_reducible refine Kd.C_drew ?_)));(case side2=>exact HC0.out);rintro e w51 ⟨v127,rfl,ho0,hb⟩;refine ⟨_,rfl,?_⟩;have n0_:=aM (Kd.S_elder' (by (with_reducible repeat (first|apply Kd.S_alloc|apply Kd.S_drewN|apply Kd.S_drew));exact HO_8.out) (Kd.R_base ho0) hb);have nw_:=aM (Kd.S_elder' (by (with_reducible repeat (first|apply Kd.S_alloc|apply Kd.S_drewN|apply Kd.S_drew));exact HO_5.out) (Kd.R_base ho0) hb);clear HO_5;have HO_5:=nw_;clear nw_;have n1_:=aM (Kd.R_lower ho0 (Qj (by repeat (first|(with_reducible first|exact HB.out|apply Qc|apply Qa|apply Qb)|exact HB.out))));have n2_:=aM (Qi (by repeat (first|(with_reducible first|exact HB.out|apply Qc|apply Qa|apply Qb)|exact HB.out)) hb);clear HO_8;clear HB;have HO_8:=n0_;have HO128:=n1_;have HB:=n2_;clear n0_ n1_ n2_;(try clear hb);(try clear hb2);(try clear hk);(try clear hi);(try clear ho0);obtain ⟨Ao52,co52,eo52⟩:=Kd.R_slice HO128.out;subst eo52)|((with_reducible refine Qh (f:=18) rfl ?_);refine goesL_ (some 78) rfl rfl Try.func18 (by kernel_rfl) rfl #[.slice Ao52 t126.length co52,.int .i64 a1] rfl (by (try simp only [aD,aE,aF]);first|done|rfl|(simp only [aG,aH];rfl)) ?_;(with_reducible refine (impl_ShareMore.calls kj25 _ _ t126 a1 t129 t130 _ ?side1 ?side2 A46.out).mono ?_);(case side1=>repeat (first|exact (Kd.R_reads' HO128.out).2.2|(with_reducible refine Kd.C_alloc ?_ _)|(with_reducible refine Kd.C_drewN ?_ _)|(with_reducible refine Kd.C_drew ?_)));(case side2=>exact (Kd.R_reads' HO128.out).2.1);rintro e w53 ⟨v131,rfl,ho0,hb⟩;refine ⟨_,rfl,?_⟩;have n0_:=aM (Kd.S_elder' (by (with_reducible repeat (first|apply Kd.S_alloc|apply Kd.S_drewN|apply Kd.S_drew));exact HO_8.out) (Kd.S_base ho0) hb);have nw_:=aM (Kd.S_elder' (by (with_reducible repeat (first|apply Kd.S_alloc|apply Kd.S_drewN|apply Kd.S_drew));exact HO_5.out) (Kd.S_base ho0) hb);clear HO_5;have HO_5:=nw_;clear nw_;have n1_:=aM (Kd.R_below (by (with_reducible repeat (first|apply Kd.R_alloc|apply Kd.R_drewN|apply Kd.R_drew));exact HO128.out) hb);have n2_:=aM (Kd.S_lower (Kd.S_new' (Kd.S_new' ho0 (Kd.S_lt (by (with_reducible repeat (first|apply Kd.S_alloc|apply Kd.S_drewN|apply Kd.S_drew));exact HO_8.out))) (Kd.R_lt (by (with_reducible repeat (first|apply Kd.R_alloc|apply Kd.R_drewN|apply Kd.R_drew));exact HO128.out))) (Qj (by repeat (first|(with_reducible first|exact HB.out|apply Qc|apply Qa|apply Qb)|exact HB.out))));have n3_:=aM (Qi (by repeat (first|(with_reducible first|exact HB.out|apply Qc|apply Qa|apply Qb)|exact HB.out)) hb);clear HO_8;clear HO128;clear HB;have HO_8:=n0_;have HO128:=n1_;have HO132:=n2_;have HB:=n3_;clear n0_ n1_ n2_ n3_;(try clear hb);(try clear hb2);(try clear hk);(try clear hi);(try clear ho0)))
            (try simp only [Act.put,aA,aB,aC])
            go_cut [89] (fun v89 wc=>∃ (kq:Nat) (x89_46:Bool),v89= .bool x89_46∧Aside0 (laws_FnExactShareMore.j2 kq t124 t123 x89_46=some r)∧Aside0 (kq≤kj25)∧Aside0 (Kd.S (Kd.slice 3 (Kd.int .i64)) 23 wc w.heap.size (fun _=>True) (.slice Ao48 t111.length co48) t124)∧Aside0 (Below w.heap.size w wc))
            case first=>
             have H:=HC47.out;clear HC47;replace H:=Option.bind_eq_some_iff.mp H;obtain ⟨t133,A540,H⟩:=H;replace H:(if t133=true then (laws_FnExactShareMore.j2 kj25 t124 t123 (t130 != t105)) else (laws_FnExactShareMore.j2 kj25 t124 t123 true))=some r:=H;have A54:=aM A540;clear A540;by_cases c55:t133=true
             ·subst c55;have H1:(laws_FnExactShareMore.j2 kj25 t124 t123 (t130 != t105))=some r:=by rw [if_pos rfl] at H;exact H
              clear H;have H:=H1;clear H1;have H':=aM H;clear H;obtain ⟨Ao56,co56,eo56⟩:=Kd.S_slice HO132.out;subst eo56;obtain ⟨Ao57,co57,eo57⟩:=Kd.S_slice HO_5.out;subst eo57;go_wp2_with (first|((with_reducible refine Qh (f:=67) rfl ?_);refine goesL_ (some 83) rfl rfl Try.func67 (by kernel_rfl) rfl #[.slice Ao56 t129.length co56,.slice Ao57 t104.length co57] rfl (by (try simp only [aD,aE,aF]);first|done|rfl|(simp only [aG,aH];rfl)) ?_;(with_reducible refine (laws_eqIntSS.calls kj25 _ _ t129 _ _ t104 true _ ?side1 ?side2 ?side3 ?side4 A54.out).mono ?_);(case side1=>repeat (first|exact (Kd.S_reads' HO132.out).2.2|(with_reducible refine Kd.C_alloc ?_ _)|(with_reducible refine Kd.C_drewN ?_ _)|(with_reducible refine Kd.C_drew ?_)));(case side2=>exact (Kd.S_reads' HO132.out).2.1);(case side3=>repeat (first|exact (Kd.S_reads' HO_5.out).2.2|(with_reducible refine Kd.C_alloc ?_ _)|(with_reducible refine Kd.C_drewN ?_ _)|(with_reducible refine Kd.C_drew ?_)));(case side4=>exact (Kd.S_reads' HO_5.out).2.1);rintro e w' ⟨rfl,⟨nd,rfl⟩⟩;refine ⟨_,rfl,?_⟩))
              go_meet
              case rel=>exact ⟨_,((t130 != t105)),(by first|rfl|(simp;done)|(simp [*];done)),H',⟨by have:=HJ7.out;have:=HJ25.out;first|omega|exact Nat.le_refl _⟩,⟨by (with_reducible repeat (first|apply Kd.S_alloc|apply Kd.S_drewN|apply Kd.S_drew));exact Kd.S_mono HO_8.out (fun _ hk=>trivial)⟩,⟨by repeat (first|(with_reducible first|exact HB.out|apply Qc|apply Qa|apply Qb)|exact HB.out)⟩⟩
             ·replace c55:=Bool.eq_false_iff.mpr c55;subst c55;have H1:(laws_FnExactShareMore.j2 kj25 t124 t123 true)=some r:=by rw [if_neg (show ¬ (false=true) by decide)] at H;exact H
              clear H;have H:=H1;clear H1;have H':=aM H;clear H;obtain ⟨Ao58,co58,eo58⟩:=Kd.S_slice HO132.out;subst eo58;obtain ⟨Ao59,co59,eo59⟩:=Kd.S_slice HO_5.out;subst eo59;go_wp2_with (first|((with_reducible refine Qh (f:=67) rfl ?_);refine goesL_ (some 83) rfl rfl Try.func67 (by kernel_rfl) rfl #[.slice Ao58 t129.length co58,.slice Ao59 t104.length co59] rfl (by (try simp only [aD,aE,aF]);first|done|rfl|(simp only [aG,aH];rfl)) ?_;(with_reducible refine (laws_eqIntSS.calls kj25 _ _ t129 _ _ t104 false _ ?side1 ?side2 ?side3 ?side4 A54.out).mono ?_);(case side1=>repeat (first|exact (Kd.S_reads' HO132.out).2.2|(with_reducible refine Kd.C_alloc ?_ _)|(with_reducible refine Kd.C_drewN ?_ _)|(with_reducible refine Kd.C_drew ?_)));(case side2=>exact (Kd.S_reads' HO132.out).2.1);(case side3=>repeat (first|exact (Kd.S_reads' HO_5.out).2.2|(with_reducible refine Kd.C_alloc ?_ _)|(with_reducible refine Kd.C_drewN ?_ _)|(with_reducible refine Kd.C_drew ?_)));(case side4=>exact (Kd.S_reads' HO_5.out).2.1);rintro e w' ⟨rfl,⟨nd,rfl⟩⟩;refine ⟨_,rfl,?_⟩))
              go_meet
              case rel=>exact ⟨_,(true),(by first|rfl|(simp;done)|(simp [*];done)),H',⟨by have:=HJ7.out;have:=HJ25.out;first|omega|exact Nat.le_refl _⟩,⟨by (with_reducible repeat (first|apply Kd.S_alloc|apply Kd.S_drewN|apply Kd.S_drew));exact Kd.S_mono HO_8.out (fun _ hk=>trivial)⟩,⟨by repeat (first|(with_reducible first|exact HB.out|apply Qc|apply Qa|apply Qb)|exact HB.out)⟩⟩
            case rest=>
             clear HC47;(try clear c1);(try clear c2);(try clear p2);(try clear c3);(try clear c3b0);(try clear c3b1);(try clear c4);(try clear c5);(try clear c6);(try clear c8);(try clear c16);(try clear c18);(try clear c19);(try clear c21);(try clear c24);(try clear c30);(try clear c30b0);(try clear c32);(try clear c37);(try clear c40);(try clear c40b0);(try clear c44);(try clear c44b0);(try clear c44b1);(try clear c55);(try clear p2);obtain ⟨kq,x89_46,rfl,HA,HJ46,HO_8,HB⟩:=hcut;have hl8_46:=(Kd.S_reads' HO_8.out).1;rw [hl8_46] at HO_8;(try simp only [hl8_46])
             cases kq with
             |zero=>exact absurd HA.out (by simp [laws_FnExactShareMore.j2])
             |succ kj46=>
              have H:=HA.out;clear HA;simp only [laws_FnExactShareMore.j2] at H;by_cases c60:x89_46=true
              ·subst c60;have H1:(some false)=some r:=by rw [if_pos rfl] at H;exact H
               clear H;have H:=H1;clear H1;obtain rfl:=Option.some.inj H;go_wp2
               go_ret
               exact ⟨by first|rfl|(simp [errW_none,errW_some] <;> rfl)|(simp [*,errW_none,errW_some] <;> rfl),by repeat (first|(with_reducible first|exact HB.out|apply Qc|apply Qa|apply Qb)|exact HB.out)⟩
              ·replace c60:=Bool.eq_false_iff.mpr c60;subst c60;have H1:((laws_heldIntSS.f kj46 t124 1).bind fun t134=>(if t134<0 then (some false) else (if t134=t123 then (some true) else (some false))))=some r:=by rw [if_neg (show ¬ (false=true) by decide)] at H;exact H
               clear H;have H:=H1;clear H1;replace H:=Option.bind_eq_some_iff.mp H;obtain ⟨t134,A610,H⟩:=H;replace H:(if t134<0 then (some false) else (if t134=t123 then (some true) else (some false)))=some r:=H;have A61:=aM A610;clear A610;by_cases c62:t134<0
               ·rw [if_pos c62] at H;have c62b0:decide (t134<0)=true:=decide_eq_true c62;clear c62;obtain rfl:=Option.some.inj H;go_wp2_with (first|((with_reducible refine Qh (f:=69) rfl ?_);refine goesL_ (some 92) rfl rfl Try.func69 (by kernel_rfl) rfl #[.slice Ao48 t124.length co48,.int .i64 1] rfl (by (try simp only [aD,aE,aF]);first|done|rfl|(simp only [aG,aH];rfl)) ?_;(with_reducible refine (laws_heldIntSS.calls kj46 _ _ t124 1 t134 _ ?side1 ?side2 A61.out).mono ?_);(case side1=>repeat (first|exact (Kd.S_reads' HO_8.out).2.2|(with_reducible refine Kd.C_alloc ?_ _)|(with_reducible refine Kd.C_drewN ?_ _)|(with_reducible refine Kd.C_drew ?_)));(case side2=>exact (Kd.S_reads' HO_8.out).2.1);rintro e w' ⟨rfl,⟨nd,rfl⟩⟩;refine ⟨_,rfl,?_⟩))
                go_ret
                exact ⟨by first|rfl|(simp [errW_none,errW_some] <;> rfl)|(simp [*,errW_none,errW_some] <;> rfl),by repeat (first|(with_reducible first|exact HB.out|apply Qc|apply Qa|apply Qb)|exact HB.out)⟩
               ·rw [if_neg c62] at H;have c62b0:decide (t134<0)=false:=decide_eq_false c62;clear c62;by_cases c63:t134=t123
                ·rw [if_pos c63] at H;have c63b0:(t134 == t123)=true:=beq_iff_eq.mpr c63;have c63b1:(t134 != t123)=false:=bne_eq_false_iff_eq.mpr c63;clear c63;obtain rfl:=Option.some.inj H;go_wp2_with (first|((with_reducible refine Qh (f:=69) rfl ?_);refine goesL_ (some 92) rfl rfl Try.func69 (by kernel_rfl) rfl #[.slice Ao48 t124.length co48,.int .i64 1] rfl (by (try simp only [aD,aE,aF]);first|done|rfl|(simp only [aG,aH];rfl)) ?_;(with_reducible refine (laws_heldIntSS.calls kj46 _ _ t124 1 t134 _ ?side1 ?side2 A61.out).mono ?_);(case side1=>repeat (first|exact (Kd.S_reads' HO_8.out).2.2|(with_reducible refine Kd.C_alloc ?_ _)|(with_reducible refine Kd.C_drewN ?_ _)|(with_reducible refine Kd.C_drew ?_)));(case side2=>exact (Kd.S_reads' HO_8.out).2.1);rintro e w' ⟨rfl,⟨nd,rfl⟩⟩;refine ⟨_,rfl,?_⟩))
                 go_ret
                 exact ⟨by first|rfl|(simp [errW_none,errW_some] <;> rfl)|(simp [*,errW_none,errW_some] <;> rfl),by repeat (first|(with_reducible first|exact HB.out|apply Qc|apply Qa|apply Qb)|exact HB.out)⟩
                ·rw [if_neg c63] at H;have c63b0:(t134 == t123)=false:=beq_eq_false_iff_ne.mpr c63;have c63b1:(t134 != t123)=true:=bne_iff_ne.mpr c63;obtain rfl:=Option.some.inj H;go_wp2_with (first|((with_reducible refine Qh (f:=69) rfl ?_);refine goesL_ (some 92) rfl rfl Try.func69 (by kernel_rfl) rfl #[.slice Ao48 t124.length co48,.int .i64 1] rfl (by (try simp only [aD,aE,aF]);first|done|rfl|(simp only [aG,aH];rfl)) ?_;(with_reducible refine (laws_heldIntSS.calls kj46 _ _ t124 1 t134 _ ?side1 ?side2 A61.out).mono ?_);(case side1=>repeat (first|exact (Kd.S_reads' HO_8.out).2.2|(with_reducible refine Kd.C_alloc ?_ _)|(with_reducible refine Kd.C_drewN ?_ _)|(with_reducible refine Kd.C_drew ?_)));(case side2=>exact (Kd.S_reads' HO_8.out).2.1);rintro e w' ⟨rfl,⟨nd,rfl⟩⟩;refine ⟨_,rfl,?_⟩))
                 go_ret
                 exact ⟨by first|rfl|(simp [errW_none,errW_some] <;> rfl)|(simp [*,errW_none,errW_some] <;> rfl),by repeat (first|(with_reducible first|exact HB.out|apply Qc|apply Qa|apply Qb)|exact HB.out)⟩
           ·rw [if_neg c44] at H;have c44b0:(t125 == t123)=false:=beq_eq_false_iff_ne.mpr c44;have c44b1:(t125 != t123)=true:=bne_iff_ne.mpr c44;obtain rfl:=Option.some.inj H;obtain ⟨Ao64,co64,eo64⟩:=Kd.S_slice HO_8.out;subst eo64;obtain ⟨Qh65,hqs_,hqo_,hqt_,hqb_⟩:=Kd.S_named HO_8.out;have Qh65S:=aM hqs_;have Qh65O:=aM hqo_;have Qh65T:=aM hqt_;have Qh65B:=aM hqb_;clear hqs_ hqo_ hqt_ hqb_;go_wp2_with (first|((with_reducible refine Qh (f:=68) rfl ?_);refine goesL_ (some 65) rfl rfl Try.func68 (by kernel_rfl) rfl #[.slice Ao64 t111.length co64,.int .i64 1] rfl (by (try simp only [aD,aE,aF]);first|done|rfl|(simp only [aG,aH];rfl)) ?_;(with_reducible refine (laws_markIntSS.calls kj25 Qh65 (.slice Ao64 t111.length co64) t111 1 t123 t124 w _ ?side1 ?side2 A38.out).mono ?_);(case side1=>repeat (first|(with_reducible first|exact HB.out|apply Qc|apply Qa|apply Qb)|exact HB.out));(case side2=>exact Qh65S.out);rintro e w66 ⟨rfl,hy0,hb,hkp⟩;refine ⟨_,rfl,?_⟩;have n0_:=aM (Kd.S_mono (ok':=fun k_=>some k_≠(v106:Value).ownBlock) hy0 (fun k_ h_=>Or.elim h_ (fun hq_=>((Qh65O.out k_ hq_).2)) (fun hn_=>(fun e_=>(Kd.S_ltB HO_5.out hn_) e_))));have n1_:=aM (hb);have nw_:=aM (Kd.S_mono (ok':=fun _=>True) (Kd.S_keptB (HO_5.out) hkp (fun k_ hk_ hs_=>Nat.not_le.2 hk_.1 ((Qh65O.out k_ hs_).1))) (fun _ _=>trivial));clear HO_8;clear HB;clear HO_5;have HO_5:=nw_;have HO_8:=n0_;have HB:=n1_;clear n0_ n1_ nw_;(try clear hb);(try clear hkp);(try clear hy0))|((with_reducible refine Qh (f:=69) rfl ?_);refine goesL_ (some 68) rfl rfl Try.func69 (by kernel_rfl) rfl #[.slice Ao64 t124.length co64,.int .i64 1] rfl (by (try simp only [aD,aE,aF]);first|done|(rw [show t124.length=t111.length from (Kd.S_reads' HO_8.out).1.symm] <;> rfl)|rfl|(simp only [aG,aH];rfl)) ?_;(with_reducible refine (laws_heldIntSS.calls kj25 _ _ t124 1 t125 _ ?side1 ?side2 A39.out).mono ?_);(case side1=>repeat (first|exact (Kd.S_reads' HO_8.out).2.2|(with_reducible refine Kd.C_alloc ?_ _)|(with_reducible refine Kd.C_drewN ?_ _)|(with_reducible refine Kd.C_drew ?_)));(case side2=>rw [show t124.length=t111.length from (Kd.S_reads' HO_8.out).1.symm];exact (Kd.S_reads' HO_8.out).2.1);rintro e w' ⟨rfl,⟨nd,rfl⟩⟩;refine ⟨_,rfl,?_⟩))
            go_ret
            exact ⟨by first|rfl|(simp [errW_none,errW_some] <;> rfl)|(simp [*,errW_none,errW_some] <;> rfl),by repeat (first|(with_reducible first|exact HB.out|apply Qc|apply Qa|apply Qb)|exact HB.out)⟩
      ·replace c24:=Bool.eq_false_iff.mpr c24;subst c24;have H1:(some false)=some r:=by rw [if_neg (show ¬ (false=true) by decide)] at H;exact H
       clear H;have H:=H1;clear H1;obtain rfl:=Option.some.inj H;go_wp2_with (first|((with_reducible refine Qh (f:=66) rfl ?_);refine goesL_ (some 44) rfl rfl Try.func66 (by kernel_rfl) rfl #[.slice A0 l0.length c0] rfl (by (try simp only [aD,aE,aF]);first|done|rfl|(simp only [aG,aH];rfl)) ?_;(with_reducible refine (laws_toIntS.calls kj7 _ _ l0 t116 _ ?side1 ?side2 A22.out).mono ?_);(case side1=>repeat (first|exact (Kd.C_below HR0.out HB.out)|(with_reducible refine Kd.C_alloc ?_ _)|(with_reducible refine Kd.C_drewN ?_ _)|(with_reducible refine Kd.C_drew ?_)));(case side2=>exact HC0.out);rintro e w67 ⟨v117,rfl,ho0,hb⟩;refine ⟨_,rfl,?_⟩;have n0_:=aM (Kd.S_elder' (by (with_reducible repeat (first|apply Kd.S_alloc|apply Kd.S_drewN|apply Kd.S_drew));exact HO_5.out) (Kd.R_base ho0) hb);have n1_:=aM (Kd.R_elder' (by (with_reducible repeat (first|apply Kd.R_alloc|apply Kd.R_drewN|apply Kd.R_drew));exact HO_7.out) (Kd.R_base ho0) hb);have n2_:=aM (Kd.S_elder' (by (with_reducible repeat (first|apply Kd.S_alloc|apply Kd.S_drewN|apply Kd.S_drew));exact HO_8.out) (Kd.R_base ho0) hb);have n3_:=aM (Kd.R_lower (Kd.R_new' ho0 (Kd.R_lt (by (with_reducible repeat (first|apply Kd.R_alloc|apply Kd.R_drewN|apply Kd.R_drew));exact HO_7.out))) (Qj (by repeat (first|(with_reducible first|exact HB.out|apply Qc|apply Qa|apply Qb)|exact HB.out))));have n4_:=aM (Qi (by repeat (first|(with_reducible first|exact HB.out|apply Qc|apply Qa|apply Qb)|exact HB.out)) hb);clear HO_5;clear HO_7;clear HO_8;clear HB;have HO_5:=n0_;have HO_7:=n1_;have HO_8:=n2_;have HO118:=n3_;have HB:=n4_;clear n0_ n1_ n2_ n3_ n4_;(try clear hb);(try clear hb2);(try clear hk);(try clear hi);(try clear ho0);obtain ⟨Ao68,co68,eo68⟩:=Kd.R_slice HO118.out;subst eo68)|((with_reducible refine Qh (f:=61) rfl ?_);refine goesL_ (some 45) rfl rfl Try.func61 (by kernel_rfl) rfl #[.slice Ao13 t108.length co13,.slice Ao68 t116.length co68] rfl (by (try simp only [aD,aE,aF]);first|done|rfl|(simp only [aG,aH];rfl)) ?_;(with_reducible refine (laws_eqIntS.calls kj7 _ _ t108 _ _ t116 false _ ?side1 ?side2 ?side3 ?side4 A23.out).mono ?_);(case side1=>repeat (first|exact (Kd.R_reads' HO_7.out).2.2|(with_reducible refine Kd.C_alloc ?_ _)|(with_reducible refine Kd.C_drewN ?_ _)|(with_reducible refine Kd.C_drew ?_)));(case side2=>exact (Kd.R_reads' HO_7.out).2.1);(case side3=>repeat (first|exact (Kd.R_reads' HO118.out).2.2|(with_reducible refine Kd.C_alloc ?_ _)|(with_reducible refine Kd.C_drewN ?_ _)|(with_reducible refine Kd.C_drew ?_)));(case side4=>exact (Kd.R_reads' HO118.out).2.1);rintro e w' ⟨rfl,⟨nd,rfl⟩⟩;refine ⟨_,rfl,?_⟩))
       go_ret
       exact ⟨by first|rfl|(simp [errW_none,errW_some] <;> rfl)|(simp [*,errW_none,errW_some] <;> rfl),by repeat (first|(with_reducible first|exact HB.out|apply Qc|apply Qa|apply Qb)|exact HB.out)⟩

/-- THE ONE PURE STATEMENT of laws_FnExactShareMore:yours. -/
def laws_FnExactShareMore.Pure:Prop:=∀ (l0:List Int) (a1:Int),l0.length≤maxLen→l0.length * 8≤140737488351232→(∀ x ∈ l0,(Lit.int .i64 x).wf=true)→(Lit.int .i64 a1).wf=true→∃ k,laws_FnExactShareMore.f k l0 a1=some true
theorem laws_FnExactShareMore.walk (P:laws_FnExactShareMore.Pure) (a0:Option Addr) (len0 cap0:Nat) (z0:List Int) (a1:Int) (w:World) (w0:(a0=none∧len0=0∧cap0=0∧z0=[])∨∃ x,a0=some x∧len0≤cap0∧cap0≤maxLen∧z0.length=cap0∧(∀ i,i<z0.length→w.cell? (x.add i)=some (.int .i64 (z0.getD i 0)))∧∀ n ∈ z0,(Lit.int .i64 n).wf=true) (y0:len0 * 8≤140737488351232) (w1:(Lit.int .i64 a1).wf=true) :
    Calls Try.prog 8 #[.slice a0 len0 cap0,.int .i64 a1] w fun e w'=>e= .returned (.bool true)∧Below w.heap.size w w':=by
  obtain ⟨l0,rfl,hr0,hm0,hw0,hc0⟩:=ReadsInt.ofRowC w0;obtain ⟨k,h⟩:=P l0 a1 hm0 y0 hw0 w1;refine (laws_FnExactShareMore.calls k _ _ l0 a1 true w (Kd.C_of_reads (d:=(0:Int)) (h1:=fun _=>rfl) hr0) hc0 h).mono ?_
  rintro e w' ⟨rfl,hd⟩
  exact ⟨rfl,hd⟩
end Go.Proofs.Ytpagpbamdpllnaa.Print
namespace Go.Proofs.Ytpagpbamdpllnaa.Pure
open Go.RowKit Go.Proofs.Ytpagpbamdpllnaa.Print Go.Proofs.YtpagpbamdpllnaaW.PrintWords Go.Proofs.YtpagpbamdpllnaaW.PrintLast Go.Proofs.YtpagpbamdpllnaaW.PrintMore

theorem Ev.of_eq {α : Type} {g : Nat → Option α} {r : α} (h : ∀ k, g k = some r) : Ev g r := ⟨0, fun k _ => h k⟩
theorem Ev.bind0 {α β : Type} {o : Option α} {f : Nat → α → Option β} {a : α} {r : β} (h : o = some a) (k : Ev (fun n => f n a) r) : Ev (fun n => o.bind (f n)) r := by
  subst h; exact k
theorem Ev.pos {α : Type} {c : Prop} [Decidable c] {g f : Nat → Option α} {r : α} (h : c) (k : Ev g r) : Ev (fun n => if c then g n else f n) r := by
  simpa only [if_pos h] using k
theorem Ev.neg {α : Type} {c : Prop} [Decidable c] {g f : Nat → Option α} {r : α} (h : ¬ c) (k : Ev f r) : Ev (fun n => if c then g n else f n) r := by
  simpa only [if_neg h] using k
theorem Ev.ite {α : Type} {c : Prop} [Decidable c] {g f : Nat → Option α} {r : α} (h : c → Ev g r) (k : ¬ c → Ev f r) : Ev (fun n => if c then g n else f n) r := by
  by_cases hc : c
  · exact Ev.pos hc (h hc)
  · exact Ev.neg hc (k hc)
theorem Ev.step0 {α : Type} {g f : Nat → Option α} {r : α} (k : Ev f r) (h : ∀ k, g (k + 1) = f k) : Ev g r := Ev.step h k
theorem Ev.to {α : Type} {g : Nat → Option α} {r s : α} (k : Ev g r) (h : r = s) : Ev g s := h ▸ k
theorem ev_up {β : Type} (n : Nat) (g : Nat → Nat → Option β) (r : β) (I : Nat → Prop) (h0 : I 0)
    (hend : I n → Ev (fun k => g k n) r) (hstep : ∀ i, i < n → I i → (I (i + 1) → Ev (fun k => g k (i + 1)) r) → Ev (fun k => g k i) r) : Ev (fun k => g k 0) r := by
  have h : ∀ d i, i + d = n → I i → Ev (fun k => g k i) r := by
    intro d
    induction d with
    | zero => intro i hi hI; obtain rfl : i = n := by omega
              exact hend hI
    | succ d ih => intro i hi hI; exact hstep i (by omega) hI fun hI' => ih (i + 1) (by omega) hI'
  exact h n 0 (by omega) h0
theorem w64 {x : Int} (h1 : -9223372036854775808 ≤ x) (h2 : x < 9223372036854775808) : wrap64 x = x := by unfold wrap64; omega
theorem rd_nat (l : List Int) (i : Nat) (h : i < l.length) : rd l (i : Int) = l[i] := by simp [rd, h]
theorem toNat_nat (i : Nat) : ((i : Int)).toNat = i := Int.toNat_natCast i
theorem lt_len {α : Type} {l : List α} {i : Nat} (h : i < l.length) : (i : Int) < (l.length : Int) := by omega
def allIn (l : List Int) (lo hi : Int) : Bool := l.all fun x => decide (lo ≤ x) && decide (x ≤ hi)
theorem allIn_iff (l : List Int) (lo hi : Int) : allIn l lo hi = true ↔ ∀ x ∈ l, lo ≤ x ∧ x ≤ hi := by
  simp [allIn, List.all_eq_true]
theorem all_take_false {α : Type} (l : List α) (p : α → Bool) (i : Nat) (h : i < l.length) (hp : p l[i] = false) : l.all p = false := by
  rw [List.all_eq_false]; exact ⟨l[i], List.getElem_mem h, by simp [hp]⟩
theorem all_take_succ {α : Type} (l : List α) (p : α → Bool) (i : Nat) (h : i < l.length) (ht : (l.take i).all p = true) (hp : p l[i] = true) : (l.take (i + 1)).all p = true := by
  rw [List.take_succ_eq_append_getElem h, List.all_append, ht]; simp [hp]
theorem Ev.succ {α : Type} {g : Nat → Option α} {r : α} (h : Ev (fun k => g (k + 1)) r) : Ev g r := Ev.step (fun _ => rfl) h
theorem exists_nat_of_nonneg {x : Int} (h : 0 ≤ x) : ∃ n : Nat, x = n := ⟨x.toNat, by omega⟩

theorem spec_l1In_eq (n lo hi : Int) : spec_l1In.f n lo hi = some (decide (lo ≤ n) && decide (n ≤ hi)) := by
  unfold spec_l1In.f
  by_cases h : n ≥ lo
  · rw [if_pos h, decide_eq_true (show lo ≤ n from h)]; simp
  · rw [if_neg h, decide_eq_false (show ¬ lo ≤ n from h)]; simp

theorem impl_within_eq (n lo hi : Int) : impl_within.f n lo hi = some (decide (lo ≤ n) && decide (n ≤ hi)) := by
  unfold impl_within.f
  by_cases h : n ≥ lo
  · rw [if_pos h, decide_eq_true (show lo ≤ n from h)]; simp
  · rw [if_neg h, decide_eq_false (show ¬ lo ≤ n from h)]; simp

theorem spec_l1All_ev (l : List Int) (lo hi : Int) (hl : l.length < 4611686018427387904) : Ev (fun k => spec_l1All.f k l lo hi) (allIn l lo hi) := by
  unfold spec_l1All.f
  refine ev_up l.length (fun k i => spec_l1All.l0 k lo hi l (l.length : Int) (i : Int)) _ (fun i => allIn (l.take i) lo hi = true) (by simp [allIn]) ?_ ?_
  · intro hI
    refine Ev.step0 (Ev.of_eq fun _ => rfl) fun k => ?_
    simp only [spec_l1All.l0]; rw [if_neg (by omega)]
    rw [List.take_length] at hI; rw [hI]
  · intro i hi' hI hn
    cases hb : (decide (lo ≤ l[i]) && decide (l[i] ≤ hi)) with
    | true =>
      refine Ev.step0 (hn (all_take_succ l _ i hi' hI hb)) fun k => ?_
      simp only [spec_l1All.l0]; rw [if_pos (lt_len hi'), if_pos (by omega), if_pos (lt_len hi'), rd_nat l i hi', spec_l1In_eq, hb]
      simp only [Option.bind_some, if_true]; rw [w64 (by omega) (by omega)]; rfl
    | false =>
      refine Ev.step0 (Ev.of_eq fun _ => rfl) fun k => ?_
      simp only [spec_l1All.l0]; rw [if_pos (lt_len hi'), if_pos (by omega), if_pos (lt_len hi'), rd_nat l i hi', spec_l1In_eq, hb]
      simp only [Option.bind_some]; rw [if_neg (by decide)]
      rw [show allIn l lo hi = false from all_take_false l _ i hi' hb]

theorem impl_allWithin_ev (l : List Int) (lo hi : Int) (hl : l.length < 4611686018427387904) : Ev (fun k => impl_allWithin.f k l lo hi) (allIn l lo hi) := by
  unfold impl_allWithin.f sl0_ContainsFunc.f sl1_IndexFunc.f
  have key : ∃ j : Int, decide (j ≥ 0) = !(allIn l lo hi) ∧ Ev (fun k => sl1_IndexFunc.l0 k l (l.length : Int) 0 lo hi) j := by
    have hc : ∀ x : Int, impl_allWithin_1.f x lo hi = some (!(decide (lo ≤ x) && decide (x ≤ hi))) := fun x => by
      unfold impl_allWithin_1.f; rw [impl_within_eq]; rfl
    cases ha : allIn l lo hi with
    | true =>
      refine ⟨-1, by decide, ?_⟩
      refine ev_up l.length (fun k i => sl1_IndexFunc.l0 k l (l.length : Int) (i : Int) lo hi) _ (fun _ => True) trivial ?_ ?_
      · intro _
        refine Ev.step0 (Ev.of_eq fun _ => rfl) fun k => ?_
        simp only [sl1_IndexFunc.l0]; rw [if_neg (by omega)]
      · intro i hi' _ hn
        have hb := (allIn_iff l lo hi).mp ha l[i] (List.getElem_mem hi')
        refine Ev.step0 (hn trivial) fun k => ?_
        simp only [sl1_IndexFunc.l0]; rw [if_pos (lt_len hi'), if_pos (by omega), if_pos (lt_len hi'), rd_nat l i hi', hc, decide_eq_true hb.1, decide_eq_true hb.2]
        simp only [Option.bind_some]; rw [if_neg (by decide), w64 (by omega) (by omega)]; rfl
    | false =>
      have : ∃ i : Nat, i < l.length ∧ Ev (fun k => sl1_IndexFunc.l0 k l (l.length : Int) 0 lo hi) (i : Int) := by
        obtain ⟨i, hi', hp, hlt⟩ : ∃ i : Nat, ∃ h : i < l.length, (decide (lo ≤ l[i]) && decide (l[i] ≤ hi)) = false ∧ ∀ j, ∀ hj : j < i, (decide (lo ≤ l[j]) && decide (l[j] ≤ hi)) = true := by
          have h1 : ∃ i : Nat, ∃ h : i < l.length, (decide (lo ≤ l[i]) && decide (l[i] ≤ hi)) = false := by
            unfold allIn at ha
            rw [List.all_eq_false] at ha
            obtain ⟨x, hx, hp⟩ := ha
            obtain ⟨i, hi', rfl⟩ := List.getElem_of_mem hx
            exact ⟨i, hi', by simpa using hp⟩
          obtain ⟨m, hm, hmin⟩ := exists_least h1
          obtain ⟨hm1, hm2⟩ := hm
          refine ⟨m, hm1, hm2, fun j hj => ?_⟩
          cases hq : (decide (lo ≤ l[j]) && decide (l[j] ≤ hi)) with
          | true => rfl
          | false => have := hmin j ⟨by omega, hq⟩; omega
        refine ⟨i, hi', ?_⟩
        refine ev_up i (fun k i => sl1_IndexFunc.l0 k l (l.length : Int) (i : Int) lo hi) _ (fun _ => True) trivial ?_ ?_
        · intro _
          refine Ev.step0 (Ev.of_eq fun _ => rfl) fun k => ?_
          simp only [sl1_IndexFunc.l0]; rw [if_pos (lt_len hi'), if_pos (by omega), if_pos (lt_len hi'), rd_nat l i hi', hc, hp]
          simp
        · intro j hj _ hn
          have hj' : j < l.length := by omega
          refine Ev.step0 (hn trivial) fun k => ?_
          simp only [sl1_IndexFunc.l0]; rw [if_pos (lt_len hj'), if_pos (by omega), if_pos (lt_len hj'), rd_nat l j hj', hc, hlt j hj]
          simp only [Option.bind_some]; rw [if_neg (by decide), w64 (by omega) (by omega)]; rfl
      obtain ⟨i, _, hi2⟩ := this
      exact ⟨i, by simp, hi2⟩
  obtain ⟨j, hj, hev⟩ := key
  refine Ev.to (Ev.bind (Ev.bind hev (Ev.now _)) (Ev.now _)) ?_
  rw [hj]; simp

theorem take_drop_set (l : List Int) (i : Nat) (h : i < l.length) : (l.take i ++ List.replicate (l.length - i) 0).set i l[i] = l.take (i + 1) ++ List.replicate (l.length - (i + 1)) 0 := by
  rw [List.set_append_right _ _ (by simp; omega)]
  rw [List.take_succ_eq_append_getElem h, List.append_assoc]
  congr 1
  rw [List.length_take, show i - min i l.length = 0 by omega, show l.length - i = (l.length - (i + 1)) + 1 by omega, List.replicate_succ]
  rfl
theorem laws_toIntS_ev (l : List Int) (hl : l.length ≤ 1048576) : Ev (fun k => laws_toIntS.f k l) l := by
  unfold laws_toIntS.f
  refine Ev.pos (by omega) (Ev.pos (by rw [toNat_nat]; omega) ?_)
  rw [toNat_nat]
  refine ev_up l.length (fun k i => laws_toIntS.l0 k l (l.take i ++ List.replicate (l.length - i) 0) (i : Int)) _ (fun _ => True) trivial ?_ ?_
  · intro _
    refine Ev.step0 (Ev.of_eq fun _ => rfl) fun k => ?_
    simp only [laws_toIntS.l0]; rw [if_neg (by omega), List.take_length]; simp
  · intro i hi' _ hn
    refine Ev.step0 (hn trivial) fun k => ?_
    have hlen : (l.take i ++ List.replicate (l.length - i) 0).length = l.length := by simp; omega
    simp only [laws_toIntS.l0]; rw [if_pos (lt_len hi'), if_pos (by omega), if_pos (by rw [hlen]; exact lt_len hi'), rd_nat l i hi', toNat_nat, take_drop_set l i hi', w64 (by omega) (by omega)]; rfl

theorem laws_eqIntS_ev (l : List Int) (hl : l.length ≤ 1048576) : Ev (fun k => laws_eqIntS.f k l l) true := by
  unfold laws_eqIntS.f
  refine Ev.pos rfl ?_
  refine ev_up l.length (fun k i => laws_eqIntS.l0 k l l (i : Int)) _ (fun _ => True) trivial ?_ ?_
  · intro _
    refine Ev.step0 (Ev.of_eq fun _ => rfl) fun k => ?_
    simp only [laws_eqIntS.l0]; rw [if_neg (by omega)]
  · intro i hi' _ hn
    refine Ev.step0 (hn trivial) fun k => ?_
    simp only [laws_eqIntS.l0]; rw [if_pos (lt_len hi'), if_pos (by omega), if_pos (lt_len hi'), if_true, w64 (by omega) (by omega)]; rfl

theorem natAbs_tmod (a b : Int) : (Int.tmod a b).natAbs = a.natAbs % b.natAbs := by
  rw [Int.natAbs_tmod]
theorem tmod_bounds (a b : Int) (hb : b ≠ 0) : -(b.natAbs : Int) < Int.tmod a b ∧ Int.tmod a b < b.natAbs := by
  have h := natAbs_tmod a b
  have h2 : a.natAbs % b.natAbs < b.natAbs := Nat.mod_lt _ (Int.natAbs_pos.mpr hb)
  omega
theorem gcd_step (a b : Int) : Int.gcd b (Int.tmod a b) = Int.gcd a b := by
  unfold Int.gcd
  rw [natAbs_tmod, Nat.gcd_comm b.natAbs, ← Nat.gcd_rec, Nat.gcd_comm]
theorem gcd_le (a b m : Int) (h : a ≠ 0 ∨ b ≠ 0) (ha : -m ≤ a ∧ a ≤ m) (hb : -m ≤ b ∧ b ≤ m) : 1 ≤ (Int.gcd a b : Int) ∧ (Int.gcd a b : Int) ≤ m := by
  have hpos : 0 < Int.gcd a b := by
    rcases Nat.eq_zero_or_pos (Int.gcd a b) with h0 | h0
    · rw [Int.gcd_eq_zero_iff] at h0; omega
    · exact h0
  refine ⟨by omega, ?_⟩
  rcases h with h | h
  · have := Nat.le_of_dvd (Int.natAbs_pos.mpr h) (Int.gcd_dvd_natAbs_left a b); omega
  · have := Nat.le_of_dvd (Int.natAbs_pos.mpr h) (Int.gcd_dvd_natAbs_right a b); omega

theorem spec_l1Abs_eq (a : Int) (h : -9223372036854775808 < a ∧ a < 9223372036854775808) : spec_l1Abs.f a = some (a.natAbs : Int) := by
  unfold spec_l1Abs.f
  by_cases h0 : a < 0
  · rw [if_pos h0, w64 (by omega) (by omega)]; congr 1; omega
  · rw [if_neg h0]; congr 1; omega
theorem spec_l1Gcd_ev (a b : Int) (ha : -9223372036854775808 < a ∧ a < 9223372036854775808) (hb : -9223372036854775808 < b ∧ b < 9223372036854775808) : Ev (fun k => spec_l1Gcd.f k a b) (Int.gcd a b : Int) := by
  unfold spec_l1Gcd.f
  refine Ev.bind0 (spec_l1Abs_eq a ha) (Ev.bind0 (spec_l1Abs_eq b hb) ?_)
  have key : ∀ (n m : Nat), Ev (fun k => spec_l1Gcd.l0 k (m : Int) (n : Int)) (Nat.gcd m n : Int) := by
    intro n
    induction n using Nat.strongRecOn with
    | _ n ih =>
      intro m
      rcases Nat.eq_zero_or_pos n with h0 | h0
      · subst h0
        refine Ev.step0 (Ev.of_eq fun _ => rfl) fun k => ?_
        simp only [spec_l1Gcd.l0]; rw [if_neg (by omega)]; simp
      · have h1 := ih (m % n) (Nat.mod_lt _ h0) n
        refine Ev.to (Ev.step0 h1 fun k => ?_) ?_
        · simp only [spec_l1Gcd.l0]; rw [if_pos (by omega), if_neg (by omega)]; rfl
        · rw [Nat.gcd_comm n, ← Nat.gcd_rec, Nat.gcd_comm]
  exact key b.natAbs a.natAbs

theorem mx_abs (a : Int) (h : -9223372036854775808 < a ∧ a < 9223372036854775808) : mx a (wrap64 (-a)) = (a.natAbs : Int) := by
  rw [w64 (by omega) (by omega)]; unfold mx; split <;> omega
theorem impl_divisor_ev (a b : Int) (ha : -9223372036854775808 < a ∧ a < 9223372036854775808) (hb : -9223372036854775808 < b ∧ b < 9223372036854775808) : Ev (fun k => impl_divisor.f k a b) (Int.gcd a b : Int) := by
  unfold impl_divisor.f
  have key : ∀ (n : Nat) (a b : Int), b.natAbs = n → (-9223372036854775808 < a ∧ a < 9223372036854775808) → (-9223372036854775808 < b ∧ b < 9223372036854775808) → Ev (fun k => impl_divisor.l0 k a b) (Int.gcd a b : Int) := by
    intro n
    induction n using Nat.strongRecOn with
    | _ n ih =>
      intro a b hn ha hb
      by_cases h0 : b = 0
      · subst h0
        refine Ev.step0 (Ev.of_eq fun _ => rfl) fun k => ?_
        simp only [impl_divisor.l0]; rw [if_true, mx_abs a ha]; simp
      · have hm := tmod_bounds a b h0
        have h1 := ih (Int.tmod a b).natAbs (by omega) b (Int.tmod a b) rfl hb (by omega)
        refine Ev.to (Ev.step0 h1 fun k => ?_) (by rw [gcd_step])
        simp only [impl_divisor.l0]; rw [if_neg h0]
  exact key _ a b rfl ha hb

def lowNum (a b : Int) : Int := if b < 0 then Int.tdiv (-a) (Int.gcd a b) else Int.tdiv a (Int.gcd a b)
def lowDen (a b : Int) : Int := if b < 0 then Int.tdiv (-b) (Int.gcd a b) else Int.tdiv b (Int.gcd a b)
theorem tdiv_small (a g m : Int) (hg : 1 ≤ g) (h : -m ≤ a ∧ a ≤ m) : -m ≤ Int.tdiv a g ∧ Int.tdiv a g ≤ m := by
  have h1 : (Int.tdiv a g).natAbs ≤ a.natAbs := by
    rw [Int.natAbs_tdiv]; exact Nat.div_le_self _ _
  omega

theorem spec_l1Make_ev (a b : Int) (ha : -9223372036854775808 < a ∧ a < 9223372036854775808) (hb : -9223372036854775808 < b ∧ b < 9223372036854775808) (h0 : b ≠ 0) : Ev (fun k => spec_l1Make.f k a b) (lowNum a b, lowDen a b) := by
  unfold spec_l1Make.f lowNum lowDen
  have hg := gcd_le a b 9223372036854775807 (.inr h0) (by omega) (by omega)
  refine Ev.ite (fun h => ?_) (fun h => ?_)
  · rw [if_pos h, if_pos h, w64 (x := -a) (by omega) (by omega), w64 (x := -b) (by omega) (by omega)]
    have e : Int.gcd (-a) (-b) = Int.gcd a b := by simp [Int.gcd]
    refine Ev.bind (Ev.to (spec_l1Gcd_ev (-a) (-b) (by omega) (by omega)) (by rw [e])) (Ev.neg (by omega) (Ev.of_eq fun _ => ?_))
    have h1 := tdiv_small (-a) (Int.gcd a b) 9223372036854775807 hg.1 (by omega)
    have h2 := tdiv_small (-b) (Int.gcd a b) 9223372036854775807 hg.1 (by omega)
    rw [w64 (by omega) (by omega), w64 (by omega) (by omega)]
  · rw [if_neg h, if_neg h]
    refine Ev.bind (spec_l1Gcd_ev a b ha hb) (Ev.neg (by omega) (Ev.of_eq fun _ => ?_))
    have h1 := tdiv_small a (Int.gcd a b) 9223372036854775807 hg.1 (by omega)
    have h2 := tdiv_small b (Int.gcd a b) 9223372036854775807 hg.1 (by omega)
    rw [w64 (by omega) (by omega), w64 (by omega) (by omega)]

def goodFrac (a b : Int) : Bool := decide (-1000000000 ≤ a) && decide (a ≤ 1000000000) && (decide (1 ≤ b) && decide (b ≤ 1000000000)) && decide (Int.gcd a b = 1)
theorem goodFrac_iff (a b : Int) : goodFrac a b = true ↔ (-1000000000 ≤ a ∧ a ≤ 1000000000) ∧ (1 ≤ b ∧ b ≤ 1000000000) ∧ Int.gcd a b = 1 := by
  simp [goodFrac, and_assoc]

theorem impl_GoodFrac_ev (a b : Int) : Ev (fun k => impl_GoodFrac.f k a b) (goodFrac a b) := by
  unfold impl_GoodFrac.f goodFrac
  refine Ev.bind0 (impl_within_eq _ _ _) ?_
  by_cases h1 : -1000000000 ≤ a ∧ a ≤ 1000000000
  · rw [decide_eq_true h1.1, decide_eq_true h1.2]
    refine Ev.pos rfl (Ev.bind0 (impl_within_eq _ _ _) ?_)
    by_cases h2 : 1 ≤ b ∧ b ≤ 1000000000
    · rw [decide_eq_true h2.1, decide_eq_true h2.2]
      refine Ev.pos rfl (Ev.to (Ev.bind (impl_divisor_ev a b (by omega) (by omega)) (Ev.now _)) ?_)
      simp only [Bool.and_self, Bool.true_and]
      rw [Bool.eq_iff_iff]; simp; omega
    · refine Ev.neg (by simpa using fun h => by omega) (Ev.of_eq fun _ => ?_)
      have : (decide (1 ≤ b) && decide (b ≤ 1000000000)) = false := by simpa using fun h => by omega
      rw [this]; simp
  · refine Ev.neg (by simpa using fun h => by omega) (Ev.of_eq fun _ => ?_)
    have : (decide (-1000000000 ≤ a) && decide (a ≤ 1000000000)) = false := by simpa using fun h => by omega
    rw [this]; simp

theorem impl_lowest_ev (a b : Int) (ha : -9223372036854775808 < a ∧ a < 9223372036854775808) (hb : -9223372036854775808 < b ∧ b < 9223372036854775808) (h0 : b ≠ 0) :
    Ev (fun k => impl_lowest.f k a b) (if goodFrac (lowNum a b) (lowDen a b) = true then (lowNum a b, lowDen a b, true) else (0, 0, false)) := by
  unfold impl_lowest.f lowNum lowDen
  have hg := gcd_le a b 9223372036854775807 (.inr h0) (by omega) (by omega)
  refine Ev.bind (impl_divisor_ev a b ha hb) ?_
  refine Ev.ite (fun h => ?_) (fun h => ?_)
  · rw [if_pos h, if_pos h, w64 (x := -(Int.gcd a b : Int)) (by omega) (by omega)]
    have h1 := tdiv_small (-a) (Int.gcd a b) 9223372036854775807 hg.1 (by omega)
    have h2 := tdiv_small (-b) (Int.gcd a b) 9223372036854775807 hg.1 (by omega)
    have e1 : Int.tdiv a (-(Int.gcd a b : Int)) = Int.tdiv (-a) (Int.gcd a b) := by rw [Int.tdiv_neg, Int.neg_tdiv]
    have e2 : Int.tdiv b (-(Int.gcd a b : Int)) = Int.tdiv (-b) (Int.gcd a b) := by rw [Int.tdiv_neg, Int.neg_tdiv]
    refine Ev.neg (by omega) ?_
    rw [e1, e2, w64 (by omega) (by omega), w64 (by omega) (by omega)]
    refine Ev.bind (impl_GoodFrac_ev _ _) ?_
    refine Ev.ite (fun hq => ?_) (fun hq => ?_)
    · rw [if_pos hq]; exact Ev.now _
    · rw [if_neg hq]; exact Ev.now _
  · rw [if_neg h, if_neg h]
    have h1 := tdiv_small a (Int.gcd a b) 9223372036854775807 hg.1 (by omega)
    have h2 := tdiv_small b (Int.gcd a b) 9223372036854775807 hg.1 (by omega)
    refine Ev.neg (by omega) ?_
    rw [w64 (by omega) (by omega), w64 (by omega) (by omega)]
    refine Ev.bind (impl_GoodFrac_ev _ _) ?_
    refine Ev.ite (fun hq => ?_) (fun hq => ?_)
    · rw [if_pos hq]; exact Ev.now _
    · rw [if_neg hq]; exact Ev.now _

theorem low_gcd (a b : Int) (h : 0 < b) : Int.gcd (lowNum a b) (lowDen a b) = 1 := by
  unfold lowNum lowDen
  rw [if_neg (by omega), if_neg (by omega)]
  unfold Int.gcd
  have hpos : 0 < Nat.gcd a.natAbs b.natAbs := Nat.gcd_pos_of_pos_right _ (by omega)
  rw [Int.natAbs_tdiv, Int.natAbs_tdiv, Int.natAbs_natCast]
  exact Nat.gcd_div_gcd_div_gcd_of_pos_right (by omega)
theorem low_den_pos (a b : Int) (h : 0 < b) : 1 ≤ lowDen a b ∧ lowDen a b ≤ b := by
  unfold lowDen
  rw [if_neg (by omega)]
  have hg := gcd_le a b b (.inr (by omega))
  obtain ⟨n, rfl⟩ := exists_nat_of_nonneg (Int.le_of_lt h)
  have hd : Int.gcd a (n : Int) ∣ n := by have := Int.gcd_dvd_natAbs_right a (n : Int); simpa using this
  have hp : 0 < Int.gcd a (n : Int) := Nat.pos_of_dvd_of_pos hd (by omega)
  rw [show Int.tdiv (n : Int) (Int.gcd a (n : Int) : Int) = ((n / Int.gcd a (n : Int) : Nat) : Int) from rfl]
  have h1 : 1 ≤ n / Int.gcd a (n : Int) := Nat.div_pos (Nat.le_of_dvd (by omega) hd) hp
  have h2 : n / Int.gcd a (n : Int) ≤ n := Nat.div_le_self _ _
  omega
theorem low_num_le (a b m : Int) (h : 0 < b) (ha : -m ≤ a ∧ a ≤ m) : -m ≤ lowNum a b ∧ lowNum a b ≤ m := by
  unfold lowNum
  rw [if_neg (by omega)]
  have hp : 0 < Int.gcd a b := by
    rcases Nat.eq_zero_or_pos (Int.gcd a b) with h0 | h0
    · rw [Int.gcd_eq_zero_iff] at h0; omega
    · exact h0
  exact tdiv_small a _ m (by omega) ha
theorem low_num_pos (a b : Int) (h : 0 < b) (ha : 0 < a) : 1 ≤ lowNum a b ∧ lowNum a b ≤ a := by
  have e : lowNum a b = lowDen b a := by unfold lowNum lowDen; rw [if_neg (by omega), if_neg (by omega), Int.gcd_comm]
  rw [e]; exact low_den_pos b a ha
theorem low_good (a b : Int) (ha : -1000000000 ≤ a ∧ a ≤ 1000000000) (hb : 1 ≤ b ∧ b ≤ 1000000000) : goodFrac (lowNum a b) (lowDen a b) = true := by
  rw [goodFrac_iff]
  have h1 := low_num_le a b 1000000000 (by omega) ha
  have h2 := low_den_pos a b (by omega)
  exact ⟨h1, ⟨h2.1, by omega⟩, low_gcd a b (by omega)⟩

def flowOk (flow : List Int) : Bool := decide (1 ≤ (flow.length : Int)) && decide ((flow.length : Int) ≤ 8) && allIn flow 1 30
def countsOk (flow counts : List Int) : Bool := flowOk flow && (decide ((counts.length : Int) = (flow.length : Int)) && (allIn counts 1 40 && decide (counts.sum ≤ 40)))
theorem flowOk_iff (flow : List Int) : flowOk flow = true ↔ (1 ≤ flow.length ∧ flow.length ≤ 8) ∧ ∀ x ∈ flow, 1 ≤ x ∧ x ≤ 30 := by
  simp only [flowOk, Bool.and_eq_true, decide_eq_true_eq, allIn_iff]
  constructor
  · rintro ⟨⟨h1, h2⟩, h3⟩; exact ⟨⟨by omega, by omega⟩, h3⟩
  · rintro ⟨⟨h1, h2⟩, h3⟩; exact ⟨⟨by omega, by omega⟩, h3⟩
theorem spec_l4Flow_ev (flow : List Int) (h : flow.length < 4611686018427387904) : Ev (fun k => spec_l4Flow.f k flow) (flowOk flow) := by
  unfold spec_l4Flow.f flowOk
  refine Ev.bind0 (spec_l1In_eq _ _ _) ?_
  refine Ev.ite (fun hc => ?_) (fun hc => ?_)
  · rw [hc]; refine Ev.bind (spec_l1All_ev flow 1 30 h) ?_; simpa using Ev.now _
  · rw [Bool.eq_false_iff.mpr hc]; exact Ev.now _

theorem impl_isFlow_ev (flow : List Int) (h : flow.length < 4611686018427387904) : Ev (fun k => impl_isFlow.f k flow) (flowOk flow) := by
  unfold impl_isFlow.f flowOk
  refine Ev.bind0 (impl_within_eq _ _ _) ?_
  refine Ev.ite (fun hc => ?_) (fun hc => ?_)
  · rw [hc]; refine Ev.bind (impl_allWithin_ev flow 1 30 h) ?_; simpa using Ev.now _
  · rw [Bool.eq_false_iff.mpr hc]; exact Ev.now _

def gn (f c : Int) : Int := lowNum f (c * (c + 1))
def gd (f c : Int) : Int := lowDen f (c * (c + 1))
theorem gain_den (c : Int) (hc : 1 ≤ c ∧ c ≤ 40) : 1 ≤ c * (c + 1) ∧ c * (c + 1) ≤ 1640 := by
  have h1 : 1 * 1 ≤ c * (c + 1) := Int.mul_le_mul (by omega) (by omega) (by omega) (by omega)
  have h2 : c * (c + 1) ≤ 40 * 41 := Int.mul_le_mul (by omega) (by omega) (by omega) (by omega)
  omega
theorem gn_bounds (f c : Int) (hf : 1 ≤ f ∧ f ≤ 30) (hc : 1 ≤ c ∧ c ≤ 40) : 1 ≤ gn f c ∧ gn f c ≤ 30 := by
  have := low_num_pos f (c * (c + 1)) (by have := gain_den c hc; omega) (by omega); unfold gn; omega
theorem gd_bounds (f c : Int) (hf : 1 ≤ f ∧ f ≤ 30) (hc : 1 ≤ c ∧ c ≤ 40) : 1 ≤ gd f c ∧ gd f c ≤ 1640 := by
  have := gain_den c hc
  have := low_den_pos f (c * (c + 1)) (by omega); unfold gd; omega
theorem mul_small {a b m n : Int} (ha : 0 ≤ a ∧ a ≤ m) (hb : 0 ≤ b ∧ b ≤ n) : 0 ≤ a * b ∧ a * b ≤ m * n :=
  ⟨Int.mul_nonneg ha.1 hb.1, Int.mul_le_mul ha.2 hb.2 hb.1 (by omega)⟩
def bestUp (lt : Nat → Nat → Bool) : Nat → Nat
  | 0 => 0
  | i + 1 => if lt (bestUp lt i) i = true then i else bestUp lt i
theorem bestUp_succ (lt : Nat → Nat → Bool) (i : Nat) : bestUp lt (i + 1) = if lt (bestUp lt i) i = true then i else bestUp lt i := rfl
theorem bestUp_lt (lt : Nat → Nat → Bool) (n i : Nat) (hn : 0 < n) (h : i ≤ n) : bestUp lt i < n := by
  induction i with
  | zero => exact hn
  | succ i ih => unfold bestUp; split
                 · omega
                 · exact ih (by omega)
def gainLt (flow counts : List Int) (b i : Nat) : Bool := decide (gn flow[b]! counts[b]! * gd flow[i]! counts[i]! < gn flow[i]! counts[i]! * gd flow[b]! counts[b]!)
def nextOf (flow counts : List Int) : Nat := bestUp (gainLt flow counts) flow.length
theorem nextOf_lt (flow counts : List Int) (h : 0 < flow.length) : nextOf flow counts < flow.length := bestUp_lt _ _ _ h (Nat.le_refl _)

theorem spec_l4Gain_ev (flow counts : List Int) (i : Nat) (hi : i < flow.length) (hl : counts.length = flow.length) (hf : ∀ x ∈ flow, 1 ≤ x ∧ x ≤ 30) (hc : ∀ x ∈ counts, 1 ≤ x ∧ x ≤ 40) :
    Ev (fun k => spec_l4Gain.f k flow counts (i : Int)) (gn flow[i]! counts[i]!, gd flow[i]! counts[i]!) := by
  have hi2 : i < counts.length := by omega
  have h1 := hf flow[i] (List.getElem_mem hi)
  have h2 := hc counts[i] (List.getElem_mem hi2)
  have h3 := gain_den counts[i] h2
  unfold spec_l4Gain.f
  refine Ev.pos (by omega) (Ev.pos (lt_len hi) (Ev.pos (lt_len hi2) ?_))
  rw [rd_nat _ _ hi, rd_nat _ _ hi2, getElem!_pos flow i hi, getElem!_pos counts i hi2, w64 (x := counts[i] + 1) (by omega) (by omega), w64 (by omega) (by omega)]
  exact Ev.bind (spec_l1Make_ev _ _ (by omega) (by omega) (by omega)) (Ev.now _)
theorem spec_l1Less_gain (flow counts : List Int) (b i : Nat) (hb : b < flow.length) (hi : i < flow.length) (hl : counts.length = flow.length) (hf : ∀ x ∈ flow, 1 ≤ x ∧ x ≤ 30) (hc : ∀ x ∈ counts, 1 ≤ x ∧ x ≤ 40) :
    spec_l1Less.f (gn flow[b]! counts[b]!) (gd flow[b]! counts[b]!) (gn flow[i]! counts[i]!) (gd flow[i]! counts[i]!) = some (gainLt flow counts b i) := by
  have hib : i < counts.length := by omega
  have hbb : b < counts.length := by omega
  have g1 := gn_bounds _ _ (hf flow[i] (List.getElem_mem hi)) (hc counts[i] (List.getElem_mem hib))
  have g2 := gd_bounds _ _ (hf flow[i] (List.getElem_mem hi)) (hc counts[i] (List.getElem_mem hib))
  have g3 := gn_bounds _ _ (hf _ (List.getElem_mem hb)) (hc _ (List.getElem_mem hbb))
  have g4 := gd_bounds _ _ (hf _ (List.getElem_mem hb)) (hc _ (List.getElem_mem hbb))
  rw [← getElem!_pos flow, ← getElem!_pos counts] at g1 g2 g3 g4
  have m1 := mul_small (a := gn flow[b]! counts[b]!) (b := gd flow[i]! counts[i]!) (m := 30) (n := 1640) ⟨by omega, by omega⟩ ⟨by omega, by omega⟩
  have m2 := mul_small (a := gn flow[i]! counts[i]!) (b := gd flow[b]! counts[b]!) (m := 30) (n := 1640) ⟨by omega, by omega⟩ ⟨by omega, by omega⟩
  unfold spec_l1Less.f gainLt
  rw [w64 (by omega) (by omega), w64 (by omega) (by omega)]
theorem spec_l4Next_ev (flow counts : List Int) (h0 : flow.length ≤ 1048576) (hl : counts.length = flow.length) (hf : ∀ x ∈ flow, 1 ≤ x ∧ x ≤ 30) (hc : ∀ x ∈ counts, 1 ≤ x ∧ x ≤ 40) :
    Ev (fun k => spec_l4Next.f k flow counts) (nextOf flow counts : Int) := by
  unfold spec_l4Next.f nextOf
  refine ev_up flow.length (fun k i => spec_l4Next.l0 k flow counts (bestUp (gainLt flow counts) i : Int) (flow.length : Int) (i : Int)) _ (fun _ => True) trivial ?_ ?_
  · intro _
    refine Ev.succ ?_
    simp only [spec_l4Next.l0]; exact Ev.neg (by omega) (Ev.now _)
  · intro i hi _ hn
    have hb : bestUp (gainLt flow counts) i < flow.length := bestUp_lt _ _ _ (by omega) (by omega)
    have hib : i < counts.length := by omega
    have hbb : bestUp (gainLt flow counts) i < counts.length := by omega
    refine Ev.succ ?_
    simp only [spec_l4Next.l0]
    refine Ev.pos (lt_len hi) (Ev.bind (spec_l4Gain_ev flow counts _ hb hl hf hc) (Ev.bind (spec_l4Gain_ev flow counts _ hi hl hf hc) ?_))
    have e := spec_l1Less_gain flow counts (bestUp (gainLt flow counts) i) i hb hi hl hf hc
    refine Ev.bind0 e ?_
    rw [w64 (by omega) (by omega)]
    have hn' := hn trivial
    rw [bestUp_succ] at hn'
    refine Ev.ite (fun hc => ?_) (fun hc => ?_)
    · rw [if_pos hc] at hn'; exact hn'
    · rw [if_neg hc] at hn'; exact hn'

theorem impl_gain_ev (f c : Int) (hf : 1 ≤ f ∧ f ≤ 30) (hc : 1 ≤ c ∧ c ≤ 40) : Ev (fun k => impl_gain.f k f c) (gn f c, gd f c) := by
  have h3 := gain_den c hc
  unfold impl_gain.f
  rw [w64 (x := c + 1) (by omega) (by omega), w64 (by omega) (by omega)]
  refine Ev.bind (impl_lowest_ev _ _ (by omega) (by omega) (by omega)) ?_
  rw [if_pos (low_good _ _ (by omega) (by omega))]
  exact Ev.now _
theorem impl_compareFracs_eq (a b c d : Int) (h1 : -4000000000000000000 ≤ a * d ∧ a * d ≤ 4000000000000000000) (h2 : -4000000000000000000 ≤ c * b ∧ c * b ≤ 4000000000000000000) :
    impl_compareFracs.f a b c d = some (if a * d < c * b then -1 else if c * b < a * d then 1 else 0) := by
  unfold impl_compareFracs.f
  rw [w64 (x := a * d) (by omega) (by omega), w64 (x := c * b) (by omega) (by omega), w64 (by omega) (by omega)]
  by_cases h : a * d < c * b
  · rw [if_pos (by omega), if_pos h]
  · rw [if_neg (by omega), if_neg h]
    by_cases h' : c * b < a * d
    · rw [if_pos (by omega), if_pos h']
    · rw [if_neg (by omega), if_neg h']
theorem impl_next_ev (flow counts : List Int) (h0 : flow.length ≤ 1048576) (hl : counts.length = flow.length) (hf : ∀ x ∈ flow, 1 ≤ x ∧ x ≤ 30) (hc : ∀ x ∈ counts, 1 ≤ x ∧ x ≤ 40) :
    Ev (fun k => impl_next.f k flow counts) (nextOf flow counts : Int) := by
  unfold impl_next.f nextOf
  refine ev_up flow.length (fun k i => impl_next.l0 k flow counts (bestUp (gainLt flow counts) i : Int) (flow.length : Int) (i : Int)) _ (fun _ => True) trivial ?_ ?_
  · intro _
    refine Ev.succ ?_
    simp only [impl_next.l0]; exact Ev.neg (by omega) (Ev.now _)
  · intro i hi _ hn
    have hb : bestUp (gainLt flow counts) i < flow.length := bestUp_lt _ _ _ (by omega) (by omega)
    have hib : i < counts.length := by omega
    have hbb : bestUp (gainLt flow counts) i < counts.length := by omega
    refine Ev.succ ?_
    simp only [impl_next.l0]
    have f1 := hf flow[i] (List.getElem_mem hi)
    have f2 := hc counts[i] (List.getElem_mem hib)
    have f3 := hf _ (List.getElem_mem hb)
    have f4 := hc _ (List.getElem_mem hbb)
    refine Ev.pos (lt_len hi) (Ev.pos (by omega) (Ev.pos (lt_len hi) (Ev.pos (lt_len hib) ?_)))
    rw [rd_nat _ _ hi, rd_nat _ _ hib, rd_nat _ _ hb, rd_nat _ _ hbb]
    refine Ev.bind (impl_gain_ev _ _ f1 f2) (Ev.pos (by omega) (Ev.pos (lt_len hb) (Ev.pos (lt_len hbb) (Ev.bind (impl_gain_ev _ _ f3 f4) ?_))))
    have g1 := gn_bounds _ _ f1 f2
    have g2 := gd_bounds _ _ f1 f2
    have g3 := gn_bounds _ _ f3 f4
    have g4 := gd_bounds _ _ f3 f4
    have m1 := mul_small (a := gn flow[bestUp (gainLt flow counts) i] counts[bestUp (gainLt flow counts) i]) (b := gd flow[i] counts[i]) (m := 30) (n := 1640) ⟨by omega, by omega⟩ ⟨by omega, by omega⟩
    have m2 := mul_small (a := gn flow[i] counts[i]) (b := gd flow[bestUp (gainLt flow counts) i] counts[bestUp (gainLt flow counts) i]) (m := 30) (n := 1640) ⟨by omega, by omega⟩ ⟨by omega, by omega⟩
    dsimp only
    refine Ev.bind0 (impl_compareFracs_eq _ _ _ _ (by omega) (by omega)) ?_
    rw [w64 (by omega) (by omega)]
    have hn' := hn trivial
    rw [bestUp_succ] at hn'
    have e : gainLt flow counts (bestUp (gainLt flow counts) i) i = decide (gn flow[bestUp (gainLt flow counts) i] counts[bestUp (gainLt flow counts) i] * gd flow[i] counts[i] < gn flow[i] counts[i] * gd flow[bestUp (gainLt flow counts) i] counts[bestUp (gainLt flow counts) i]) := by
      unfold gainLt
      rw [getElem!_pos flow i hi, getElem!_pos counts i hib, getElem!_pos flow _ hb, getElem!_pos counts _ hbb]
    by_cases hlt : gn flow[bestUp (gainLt flow counts) i] counts[bestUp (gainLt flow counts) i] * gd flow[i] counts[i] < gn flow[i] counts[i] * gd flow[bestUp (gainLt flow counts) i] counts[bestUp (gainLt flow counts) i]
    · rw [e, decide_eq_true hlt, if_pos rfl] at hn'
      rw [if_neg (by omega), if_pos hlt]
      exact Ev.pos (by omega) hn'
    · rw [e, decide_eq_false hlt, if_neg (by decide)] at hn'
      rw [if_neg hlt]
      refine Ev.neg ?_ hn'
      split <;> omega

def bump (flow counts : List Int) : List Int := counts.set (nextOf flow counts) (counts[nextOf flow counts]! + 1)
def shareUp (flow : List Int) : Nat → List Int
  | 0 => List.replicate flow.length 1
  | i + 1 => bump flow (shareUp flow i)
theorem bump_length (flow counts : List Int) : (bump flow counts).length = counts.length := by simp [bump]
theorem shareUp_length (flow : List Int) (i : Nat) : (shareUp flow i).length = flow.length := by
  induction i with
  | zero => simp [shareUp]
  | succ i ih => rw [shareUp, bump_length, ih]
theorem shareUp_bounds (flow : List Int) (h0 : 0 < flow.length) (i : Nat) : ∀ x ∈ shareUp flow i, 1 ≤ x ∧ x ≤ 1 + (i : Int) := by
  induction i with
  | zero => intro x hx; rw [shareUp] at hx; have := List.eq_of_mem_replicate hx; omega
  | succ i ih =>
    intro x hx
    rw [shareUp, bump] at hx
    rcases List.mem_or_eq_of_mem_set hx with h | h
    · have := ih x h; omega
    · have hn : nextOf flow (shareUp flow i) < (shareUp flow i).length := by rw [shareUp_length]; exact nextOf_lt _ _ h0
      have := ih _ (List.getElem_mem hn)
      rw [getElem!_pos (shareUp flow i) _ hn] at h; omega
def shareOf (flow : List Int) (places : Int) : List Int := shareUp flow (places - flow.length).toNat
def kindsOk (flow : List Int) (places : Int) : Bool := flowOk flow && (decide ((flow.length : Int) ≤ places) && decide (places ≤ 40))

theorem spec_l4Share_ev (flow : List Int) (places : Int) (h1 : 1 ≤ flow.length ∧ flow.length ≤ 8) (hf : ∀ x ∈ flow, 1 ≤ x ∧ x ≤ 30) (hp : (flow.length : Int) ≤ places ∧ places ≤ 40) :
    Ev (fun k => spec_l4Share.f k flow places) (shareOf flow places) := by
  unfold spec_l4Share.f
  refine ev_up flow.length (fun k i => spec_l4Share.l0 k flow places (List.replicate i 1) (flow.length : Int) (i : Int)) _ (fun _ => True) trivial ?_ ?_
  · intro _
    refine Ev.succ ?_
    simp only [spec_l4Share.l0]
    refine Ev.neg (by omega) ?_
    have hm : ((places - flow.length).toNat : Int) = places - flow.length := by omega
    rw [show List.replicate flow.length (1 : Int) = shareUp flow 0 from rfl]
    have key := ev_up (places - flow.length).toNat (fun k i => spec_l4Share.l1 k flow places (shareUp flow i) ((flow.length : Int) + (i : Int))) (shareOf flow places) (fun _ => True) trivial ?_ ?_
    · simpa using key
    · intro _
      refine Ev.succ ?_
      simp only [spec_l4Share.l1]
      exact Ev.neg (by omega) (Ev.now _)
    · intro i hi _ hn
      refine Ev.succ ?_
      simp only [spec_l4Share.l1]
      have hc := shareUp_bounds flow (by omega) i
      have hl := shareUp_length flow i
      have hx : nextOf flow (shareUp flow i) < (shareUp flow i).length := by rw [hl]; exact nextOf_lt _ _ (by omega)
      have hb := hc _ (List.getElem_mem hx)
      refine Ev.pos (by omega) (Ev.bind (spec_l4Next_ev flow (shareUp flow i) (by omega) hl hf (fun x hx => by have := hc x hx; omega)) (Ev.pos (by omega) (Ev.pos (lt_len hx) ?_)))
      rw [rd_nat _ _ hx, toNat_nat, w64 (x := _ + 1) (by omega) (by omega), w64 (x := _ + 1) (by omega) (by omega)]
      have hn' := hn trivial
      rw [shareUp, bump, getElem!_pos (shareUp flow i) _ hx] at hn'
      rw [show (flow.length : Int) + (i : Int) + 1 = (flow.length : Int) + ((i + 1 : Nat) : Int) by omega]
      exact hn'
  · intro i hi _ hn
    refine Ev.succ ?_
    simp only [spec_l4Share.l0]
    refine Ev.pos (by omega) (Ev.pos (by rw [List.length_replicate]; omega) ?_)
    rw [w64 (by omega) (by omega), show List.replicate i (1 : Int) ++ [1] = List.replicate (i + 1) 1 by rw [List.replicate_succ']]
    exact hn trivial

theorem impl_shareOut_ev (flow : List Int) (places : Int) (h1 : 1 ≤ flow.length ∧ flow.length ≤ 8) (hf : ∀ x ∈ flow, 1 ≤ x ∧ x ≤ 30) (hp : (flow.length : Int) ≤ places ∧ places ≤ 40) :
    Ev (fun k => impl_shareOut.f k flow places) (shareOf flow places) := by
  unfold impl_shareOut.f
  have hr : slices_Repeat_int_int.f [1] (flow.length : Int) = some (shareUp flow 0) := by
    simp only [slices_Repeat_int_int.f]; rw [if_pos (by omega), toNat_nat]; rfl
  refine Ev.bind0 hr ?_
  rw [w64 (by omega) (by omega)]
  have hm : ((places - flow.length).toNat : Int) = places - flow.length := by omega
  rw [← hm]
  refine ev_up (places - flow.length).toNat (fun k i => impl_shareOut.l0 k flow (shareUp flow i) ((places - flow.length).toNat : Int) (i : Int)) _ (fun _ => True) trivial ?_ ?_
  · intro _
    refine Ev.succ ?_
    simp only [impl_shareOut.l0]
    exact Ev.neg (by omega) (Ev.now _)
  · intro i hi _ hn
    refine Ev.succ ?_
    simp only [impl_shareOut.l0]
    have hc := shareUp_bounds flow (by omega) i
    have hl := shareUp_length flow i
    have hx : nextOf flow (shareUp flow i) < (shareUp flow i).length := by rw [hl]; exact nextOf_lt _ _ (by omega)
    have hb := hc _ (List.getElem_mem hx)
    refine Ev.pos (by omega) (Ev.bind (impl_next_ev flow (shareUp flow i) (by omega) hl hf (fun x hx => by have := hc x hx; omega)) (Ev.pos (by omega) (Ev.pos (lt_len hx) ?_)))
    rw [rd_nat _ _ hx, toNat_nat, w64 (x := _ + 1) (by omega) (by omega), w64 (x := _ + 1) (by omega) (by omega)]
    have hn' := hn trivial
    rw [shareUp, bump, getElem!_pos (shareUp flow i) _ hx] at hn'
    exact hn'

theorem spec_GoodKinds_ev (flow : List Int) (places : Int) (h : flow.length ≤ 1048576) : Ev (fun k => spec_GoodKinds.f k flow places) (kindsOk flow places) := by
  unfold spec_GoodKinds.f kindsOk
  refine Ev.bind (spec_l4Flow_ev flow (by omega)) ?_
  refine Ev.ite (fun hc => ?_) (fun hc => ?_)
  · rw [hc]; exact Ev.bind0 (spec_l1In_eq _ _ _) (by simpa using Ev.now _)
  · rw [Bool.eq_false_iff.mpr hc]; exact Ev.now _
theorem impl_GoodKinds_ev (flow : List Int) (places : Int) (h : flow.length ≤ 1048576) : Ev (fun k => impl_GoodKinds.f k flow places) (kindsOk flow places) := by
  unfold impl_GoodKinds.f kindsOk
  refine Ev.bind (impl_isFlow_ev flow (by omega)) ?_
  refine Ev.ite (fun hc => ?_) (fun hc => ?_)
  · rw [hc]; exact Ev.bind0 (impl_within_eq _ _ _) (by simpa using Ev.now _)
  · rw [Bool.eq_false_iff.mpr hc]; exact Ev.now _
def upFrom (k : Int) (n : Nat) : List Int := (List.range n).map fun (j : Nat) => k + (j : Int)
theorem upFrom_length (k : Int) (n : Nat) : (upFrom k n).length = n := by simp [upFrom]
theorem upFrom_get (k : Int) (n i : Nat) (h : i < n) : (upFrom k n)[i]'(by rw [upFrom_length]; exact h) = k + (i : Int) := by simp [upFrom]
theorem upFrom_succ (k : Int) (n : Nat) : upFrom k (n + 1) = upFrom k n ++ [k + (n : Int)] := by simp [upFrom, List.range_succ]
theorem laws_markIntS_ev (l : List Int) (k0 : Int) (h0 : 0 ≤ k0 ∧ k0 ≤ 1073741824) (hl : l.length ≤ 1048576) : Ev (fun k => laws_markIntS.f k l k0) (k0 + (l.length : Int), upFrom k0 l.length) := by
  unfold laws_markIntS.f
  have key := ev_up l.length (fun k i => laws_markIntS.l0 k (upFrom k0 i ++ l.drop i) (k0 + (i : Int)) (i : Int)) (k0 + (l.length : Int), upFrom k0 l.length) (fun _ => True) trivial ?_ ?_
  · simpa [upFrom] using key
  · intro _
    refine Ev.succ ?_
    simp only [laws_markIntS.l0]
    refine Ev.neg (by simp [upFrom_length]) ?_
    rw [List.drop_length, List.append_nil]; exact Ev.now _
  · intro i hi _ hn
    refine Ev.succ ?_
    simp only [laws_markIntS.l0]
    have hlen : (upFrom k0 i ++ l.drop i).length = l.length := by simp [upFrom_length]; omega
    refine Ev.pos (by rw [hlen]; exact lt_len hi) (Ev.pos (by omega) ?_)
    rw [toNat_nat, w64 (x := (i : Int) + 1) (by omega) (by omega), w64 (by omega) (by omega)]
    have hs : (upFrom k0 i ++ l.drop i).set i (k0 + (i : Int)) = upFrom k0 (i + 1) ++ l.drop (i + 1) := by
      rw [List.set_append_right _ _ (by rw [upFrom_length]; exact Nat.le_refl _), upFrom_length, Nat.sub_self, List.drop_eq_getElem_cons hi, List.set_cons_zero, upFrom_succ, List.append_assoc]; rfl
    rw [hs, Int.add_assoc]
    exact hn trivial

theorem laws_heldIntS_ev (n : Nat) (k0 : Int) (h0 : 0 ≤ k0 ∧ k0 ≤ 1073741824) (hl : n ≤ 1048576) : Ev (fun k => laws_heldIntS.f k (upFrom k0 n) k0) (k0 + (n : Int)) := by
  unfold laws_heldIntS.f
  have key := ev_up n (fun k i => laws_heldIntS.l0 k (upFrom k0 n) (k0 + (i : Int)) (i : Int)) (k0 + (n : Int)) (fun _ => True) trivial ?_ ?_
  · simpa using key
  · intro _
    refine Ev.succ ?_
    simp only [laws_heldIntS.l0]
    exact Ev.neg (by simp [upFrom_length]) (Ev.now _)
  · intro i hi _ hn
    refine Ev.succ ?_
    simp only [laws_heldIntS.l0]
    have hi' : i < (upFrom k0 n).length := by rw [upFrom_length]; exact hi
    refine Ev.pos (lt_len hi') (Ev.pos (by omega) (Ev.pos (by rw [rd_nat _ _ hi', upFrom_get _ _ _ hi]) ?_))
    rw [w64 (x := (i : Int) + 1) (by omega) (by omega), w64 (by omega) (by omega), Int.add_assoc]
    exact hn trivial

def bytesOk (l : List Int) : Prop := ∀ x ∈ l, 0 ≤ x ∧ x ≤ 255

def fits (p : Int × Int) : Int × Int × Bool := if goodFrac p.1 p.2 = true then (p.1, p.2, true) else (0, 0, false)
def bothGood (a b c d : Int) : Bool := goodFrac a b && goodFrac c d
def addF (a b c d : Int) : Int × Int × Bool := if bothGood a b c d = true then fits (lowNum (a * d + c * b) (b * d), lowDen (a * d + c * b) (b * d)) else (0, 0, false)
def subF (a b c d : Int) : Int × Int × Bool := if bothGood a b c d = true then fits (lowNum (a * d - c * b) (b * d), lowDen (a * d - c * b) (b * d)) else (0, 0, false)
def mulF (a b c d : Int) : Int × Int × Bool := if bothGood a b c d = true then fits (lowNum (a * c) (b * d), lowDen (a * c) (b * d)) else (0, 0, false)
def divF (a b c d : Int) : Int × Int × Bool := if bothGood a b c d = true ∧ c ≠ 0 then fits (lowNum (a * d) (b * c), lowDen (a * d) (b * c)) else (0, 0, false)
def lessF (a b c d : Int) : Bool × Bool := if bothGood a b c d = true then (decide (a * d < c * b), true) else (false, false)
def floorF (a b : Int) : Int × Bool := if goodFrac a b = true then (a / b, true) else (0, false)

def sumF : List (Int × Int) → Int × Int → Int × Int × Bool
  | [], s => (s.1, s.2, true)
  | x :: l, s => if (addF s.1 s.2 x.1 x.2).2.2 = true then sumF l ((addF s.1 s.2 x.1 x.2).1, (addF s.1 s.2 x.1 x.2).2.1) else (0, 0, false)

def sumsF (l : List (Int × Int)) : Int × Int × Bool := if l.length ≤ 50 then sumF l (0, 1) else (0, 0, false)

def wayOf (a b c d : Int) : Int := if a = c then ((b - d).natAbs : Int) else 3 * ((a - c).natAbs : Int) + (if 40 - (b + d) < b + d then 40 - (b + d) else b + d)
def spotOk (a b : Int) : Bool := (decide (0 ≤ a) && decide (a ≤ 9)) && (decide (0 ≤ b) && decide (b ≤ 20))

def isqUp (n : Int) : Nat → Int
  | 0 => 0
  | k + 1 => if ((k : Int) + 1) * ((k : Int) + 1) ≤ n then (k : Int) + 1 else isqUp n k
def isq (n : Int) : Int := isqUp n n.toNat
def goodB (a b c d : Int) : Bool := bothGood a b c d && (decide (0 ≤ a) && !decide (c * b < a * d))

def withinB (x y a b c d : Int) : Bool × Bool := if goodFrac x y = true ∧ goodB a b c d = true then (!decide (x * b < a * y) && !decide (c * y < x * d), true) else (false, false)

def rootB (n p : Int) : Int × Int × Int × Int × Bool :=
  if (0 ≤ n ∧ n ≤ 1000000000000) ∧ (1 ≤ p ∧ p ≤ 1000) ∧ n ≤ 1000000000000 / (p * p) then
    (lowNum (isq (n * p * p)) p, lowDen (isq (n * p * p)) p, lowNum (if isq (n * p * p) * isq (n * p * p) = n * p * p then isq (n * p * p) else isq (n * p * p) + 1) p, lowDen (if isq (n * p * p) * isq (n * p * p) = n * p * p then isq (n * p * p) else isq (n * p * p) + 1) p, true)
  else (0, 0, 0, 0, false)
def losOf (l : List S44) : List (Int × Int) := l.map fun b => (b.f0.f0, b.f0.f1)
def hisOf (l : List S44) : List (Int × Int) := l.map fun b => (b.f1.f0, b.f1.f1)
def sumB (l : List S44) : Int × Int × Int × Int × Bool :=
  if l.length ≤ 20 ∧ (l.all fun b => goodB b.f0.f0 b.f0.f1 b.f1.f0 b.f1.f1) = true ∧ (sumF (losOf l) (0, 1)).2.2 = true ∧ (sumF (hisOf l) (0, 1)).2.2 = true then
    ((sumF (losOf l) (0, 1)).1, (sumF (losOf l) (0, 1)).2.1, (sumF (hisOf l) (0, 1)).1, (sumF (hisOf l) (0, 1)).2.1, true)
  else (0, 0, 0, 0, false)

def csq (n : Int) : Int := if isq n * isq n = n then isq n else isq n + 1
def rootsL (flow : List Int) (p : Int) : Int := (flow.map fun f => isq (f * p * p)).sum
def rootsH (flow : List Int) (p : Int) : Int := (flow.map fun f => csq (f * p * p)).sum
def leastB (flow : List Int) (room p : Int) : Int × Int × Int × Int × Bool :=
  if flowOk flow = true ∧ (8 ≤ room ∧ room ≤ 1000) ∧ (1 ≤ p ∧ p ≤ 100) then
    (lowNum (rootsL flow p * rootsL flow p) (p * p * room), lowDen (rootsL flow p * rootsL flow p) (p * p * room), lowNum (rootsH flow p * rootsH flow p) (p * p * room), lowDen (rootsH flow p * rootsH flow p) (p * p * room), true)
  else (0, 0, 0, 0, false)
def bndOf (p f : Int) : S44 := ⟨⟨lowNum (isq (f * p * p)) p, lowDen (isq (f * p * p)) p⟩, ⟨lowNum (csq (f * p * p)) p, lowDen (csq (f * p * p)) p⟩⟩

def jn (E : List (Nat × Nat)) (T : Nat → Bool) : Nat → Nat → Prop
  | 0, u => T u = true
  | n + 1, u => T u = true ∨ ∃ v, ((u, v) ∈ E ∨ (v, u) ∈ E) ∧ jn E T n v
def Jn (E : List (Nat × Nat)) (T : Nat → Bool) (u : Nat) : Prop := ∃ n, jn E T n u
theorem Jn.base {E : List (Nat × Nat)} {T : Nat → Bool} {u : Nat} (h : T u = true) : Jn E T u := ⟨0, h⟩
theorem Jn.step {E : List (Nat × Nat)} {T : Nat → Bool} {u v : Nat} (h : (u, v) ∈ E ∨ (v, u) ∈ E) (k : Jn E T v) : Jn E T u := by
  obtain ⟨n, hn⟩ := k; exact ⟨n + 1, .inr ⟨v, h, hn⟩⟩
theorem Jn.rule {E : List (Nat × Nat)} {T : Nat → Bool} {P : Nat → Prop} (hb : ∀ u, T u = true → P u)
    (hs : ∀ u v, ((u, v) ∈ E ∨ (v, u) ∈ E) → Jn E T v → P v → P u) {u : Nat} (h : Jn E T u) : P u := by
  obtain ⟨n, hn⟩ := h
  induction n generalizing u with
  | zero => exact hb u hn
  | succ n ih =>
    rcases hn with h | ⟨v, h, hv⟩
    · exact hb u h
    · exact hs u v h ⟨n, hv⟩ (ih hv)
theorem Jn.trans {E E' : List (Nat × Nat)} {T T' : Nat → Bool} {u : Nat} (h : Jn E T u) (k : ∀ x, T x = true → Jn E' T' x) (hE : ∀ e ∈ E, e ∈ E') : Jn E' T' u :=
  h.rule k fun _ _ he _ p => Jn.step (he.imp (hE _) (hE _)) p
theorem Jn.move {E : List (Nat × Nat)} {J : Nat → Bool} {v x s : Nat} {e : Nat × Nat} (hxs : e = (x, s) ∨ e = (s, x)) (hs : J s = true)
    (hj : Jn (E.erase e) (fun u => decide (u = v)) x) {u : Nat} (h : Jn E J u) : Jn (E.erase e) (fun y => J y || decide (y = v)) u := by
  have hx : Jn (E.erase e) (fun y => J y || decide (y = v)) x := hj.trans (fun y hy => Jn.base (by simp at hy; simp [hy])) (fun _ h => h)
  have hss : Jn (E.erase e) (fun y => J y || decide (y = v)) s := Jn.base (by simp [hs])
  refine h.rule (P := fun u => Jn (E.erase e) (fun y => J y || decide (y = v)) u) (fun u hu => Jn.base (by simp [hu])) ?_
  intro u w hf _ ih
  by_cases h1 : (u, w) = e
  · rcases hxs with h2 | h2 <;> rw [h2] at h1 <;> injection h1 with h3 h4
    · rw [h3]; exact hx
    · rw [h3]; exact hss
  · by_cases h2 : (w, u) = e
    · rcases hxs with h3 | h3 <;> rw [h3] at h2 <;> injection h2 with h4 h5
      · rw [h5]; exact hss
      · rw [h5]; exact hx
    · refine Jn.step (v := w) ?_ ih
      rcases hf with hf | hf
      · exact .inl ((List.mem_erase_of_ne h1).mpr hf)
      · exact .inr ((List.mem_erase_of_ne h2).mpr hf)
def sumW (w : Nat → Nat → Int) (E : List (Nat × Nat)) : Int := (E.map fun e => w e.1 e.2).sum
def nearUp (w : Nat → Nat → Int) (J : Nat → Bool) (i : Nat) : Nat → Option Nat
  | 0 => none
  | k + 1 => match nearUp w J i k with
    | none => if J k = true then some k else none
    | some m => if J k = true ∧ w i k < w i m then some k else some m
def pickUp (w : Nat → Nat → Int) (J : Nat → Bool) (n : Nat) : Nat → Option (Nat × Nat)
  | 0 => none
  | i + 1 => match pickUp w J n i with
    | none => if J i = true then none else (nearUp w J i n).map fun m => (i, m)
    | some p => if J i = true then some p else match nearUp w J i n with
      | none => some p
      | some m => if w i m < w p.1 p.2 then some (i, m) else some p

def updP (w : Nat → Nat → Int) (J : Nat → Bool) (i : Nat) (p : Option (Nat × Nat)) (m : Option Nat) : Option (Nat × Nat) :=
  if J i = true then p else match m with
    | none => p
    | some m => match p with
      | none => some (i, m)
      | some q => if w i m < w q.1 q.2 then some (i, m) else some q
def jd (J : List Bool) (m : Nat) : Bool := rdOf false J (m : Int)
def primSt (w : Nat → Nat → Int) (n : Nat) : Nat → List Int × Int × List Bool
  | 0 => (List.replicate n (-1), 0, (List.replicate n false).set 0 true)
  | t + 1 => match pickUp w (jd (primSt w n t).2.2) n n with
    | none => primSt w n t
    | some q => ((primSt w n t).1.set q.1 (q.2 : Int), (primSt w n t).2.1 + w q.1 q.2, (primSt w n t).2.2.set q.1 true)
def sumTo (f : Nat → Int) : Nat → Int
  | 0 => 0
  | n + 1 => sumTo f n + f n
structure PrimOk (w : Nat → Nat → Int) (n : Nat) (E : List (Nat × Nat)) (t : Nat) (s : List Int × Int × List Bool) : Prop where
  l1 : s.1.length = n
  l2 : s.2.2.length = n
  cnt : s.2.2.count true = t + 1
  j0 : jd s.2.2 0 = true
  o0 : rd s.1 0 = -1
  up : ∀ i, i < n → i ≠ 0 → jd s.2.2 i = true → 0 ≤ rd s.1 i ∧ rd s.1 i < n ∧ rd s.1 i ≠ i
  all : ∀ i, i < n → -1 ≤ rd s.1 i ∧ rd s.1 i < n
  sum : s.2.1 = sumTo (fun i => if jd s.2.2 i = true ∧ i ≠ 0 then w i (rd s.1 i).toNat else 0) n
  pot : ∃ E', (∀ e ∈ E', e ∈ E) ∧ sumW w E' + s.2.1 ≤ sumW w E ∧ ∀ u, u < n → Jn E' (jd s.2.2) u

def allTo (P : Nat → Bool) (n : Nat) : Bool := (List.range n).all P
def KK : Int := 219060189739591200
def kd (c : Int) : Int := KK / c
def gK (c : Int) : Int := kd c - kd (c + 1)
def Stab (n : Nat) (f c : Nat → Int) : Prop := ∀ i k, i < n → k < n → i ≠ k → 1 < c i → f k * gK (c k) ≤ f i * gK (c i - 1)
def costN (n : Nat) (f c : Nat → Int) : Int := sumTo (fun i => f i * kd (c i)) n
def tK (x : Int × Int) : Int := x.1 * KK / x.2
def isT (x : Int × Int) (t : Int) : Prop := 1 ≤ x.2 ∧ x.1 * KK = x.2 * t
def ratioL (flow counts : List Int) : List (Int × Int) := (List.range flow.length).map fun (j : Nat) => (lowNum (rd flow j) (rd counts j), lowDen (rd flow j) (rd counts j))
def costF (flow counts : List Int) : Int × Int × Bool := if countsOk flow counts = true then sumF (ratioL flow counts) (0, 1) else (0, 0, false)

def viol (flow counts : List Int) (i k : Nat) : Bool := decide (i ≠ k ∧ 1 < rd counts i ∧ rd flow i * gK (rd counts i - 1) < rd flow k * gK (rd counts k))
def stabB (flow counts : List Int) : Bool := allTo (fun i => allTo (fun k => !viol flow counts i k) flow.length) flow.length
def stableF (flow counts : List Int) : Bool × Bool := if countsOk flow counts = true then (stabB flow counts, true) else (false, false)

def ratioS (flow counts : List Int) (n : Nat) : List S35 := (List.range n).map fun (j : Nat) => ⟨lowNum (rd flow j) (rd counts j), lowDen (rd flow j) (rd counts j)⟩


def moreOf (flow : List Int) (n : Nat) : List (List Int) := (List.range n).map fun t => shareUp flow t
theorem moreOf_length (flow : List Int) (n : Nat) : (moreOf flow n).length = n := by simp [moreOf]
theorem moreOf_succ (flow : List Int) (n : Nat) : moreOf flow (n + 1) = moreOf flow n ++ [shareUp flow n] := by unfold moreOf; rw [List.range_succ, List.map_append]; rfl
def moreN (flow : List Int) (places : Int) : Nat := (places - flow.length + 1).toNat
def moreF (flow : List Int) (places : Int) : List (List Int) × Bool := if kindsOk flow places = true then (moreOf flow (moreN flow places), true) else ([], false)

theorem impl_ShareMore_ev (flow : List Int) (places : Int) (h : flow.length ≤ 1048576) : Ev (fun k => impl_ShareMore.f k flow places) (moreF flow places) := by
  unfold impl_ShareMore.f moreF
  refine Ev.bind (impl_GoodKinds_ev flow places h) (Ev.ite (fun hk => ?_) (fun hk => by rw [if_neg hk]; exact Ev.now _))
  rw [if_pos hk]
  simp only [kindsOk, Bool.and_eq_true, decide_eq_true_eq] at hk
  obtain ⟨h1, h2, h3⟩ := hk
  obtain ⟨f1, f2⟩ := (flowOk_iff flow).mp h1
  have key := ev_up (moreN flow places) (fun k t => impl_ShareMore.l0 k flow places (moreOf flow t) ((flow.length : Int) + (t : Int))) (moreOf flow (moreN flow places), true) (fun _ => True) trivial ?_ ?_
  · simpa [moreOf] using key
  · intro _
    refine Ev.succ ?_
    simp only [impl_ShareMore.l0]
    exact Ev.neg (by unfold moreN; omega) (Ev.now _)
  · intro t ht _ hn
    have ht' : (t : Int) ≤ places - flow.length := by unfold moreN at ht; omega
    refine Ev.succ ?_
    simp only [impl_ShareMore.l0]
    have e : shareOf flow ((flow.length : Int) + t) = shareUp flow t := by unfold shareOf; congr 1; omega
    refine Ev.pos (by omega) (Ev.bind (Ev.to (impl_shareOut_ev flow _ f1 f2 (by omega)) e) (Ev.pos (by rw [moreOf_length]; omega) ?_))
    rw [w64 (by omega) (by omega), ← moreOf_succ, Int.add_assoc]
    exact hn trivial

theorem spec_ShareMore_ev (flow : List Int) (places : Int) (h : flow.length ≤ 1048576) : Ev (fun k => spec_ShareMore.f k flow places) (moreF flow places) := by
  unfold spec_ShareMore.f moreF
  refine Ev.bind (spec_GoodKinds_ev flow places h) (Ev.ite (fun hk => ?_) (fun hk => by rw [if_neg hk]; exact Ev.now _))
  rw [if_pos hk]
  simp only [kindsOk, Bool.and_eq_true, decide_eq_true_eq] at hk
  obtain ⟨h1, h2, h3⟩ := hk
  obtain ⟨f1, f2⟩ := (flowOk_iff flow).mp h1
  have key := ev_up (moreN flow places) (fun k t => spec_ShareMore.l0 k flow places (moreOf flow t) ((flow.length : Int) + (t : Int))) (moreOf flow (moreN flow places), true) (fun _ => True) trivial ?_ ?_
  · simpa [moreOf] using key
  · intro _
    refine Ev.succ ?_
    simp only [spec_ShareMore.l0]
    exact Ev.neg (by unfold moreN; omega) (Ev.now _)
  · intro t ht _ hn
    have ht' : (t : Int) ≤ places - flow.length := by unfold moreN at ht; omega
    refine Ev.succ ?_
    simp only [spec_ShareMore.l0]
    have e : shareOf flow ((flow.length : Int) + t) = shareUp flow t := by unfold shareOf; congr 1; omega
    refine Ev.pos (by omega) (Ev.bind (Ev.to (spec_l4Share_ev flow _ f1 f2 (by omega)) e) (Ev.pos (by rw [moreOf_length]; omega) ?_))
    rw [w64 (by omega) (by omega), ← moreOf_succ, Int.add_assoc]
    exact hn trivial

theorem rdL_nat (l : List (List Int)) (i : Nat) (h : i < l.length) : rd_L2 l (i : Int) = l[i] := by simp [rd_L2, h]
theorem laws_eqIntSS_ev (l : List (List Int)) (hl : l.length ≤ 1048576) (hr : ∀ r ∈ l, r.length ≤ 1048576) : Ev (fun k => laws_eqIntSS.f k l l) true := by
  unfold laws_eqIntSS.f
  refine Ev.pos rfl ?_
  refine ev_up l.length (fun k i => laws_eqIntSS.l0 k l l (i : Int)) _ (fun _ => True) trivial ?_ ?_
  · intro _; refine Ev.succ ?_; simp only [laws_eqIntSS.l0]; exact Ev.neg (by omega) (Ev.now _)
  · intro i hi _ hn
    refine Ev.succ ?_
    simp only [laws_eqIntSS.l0]
    rw [rdL_nat l i hi, w64 (x := (i : Int) + 1) (by omega) (by omega)]
    exact Ev.pos (by omega) (Ev.pos (by omega) (Ev.pos (by omega) (Ev.bind (laws_eqIntS_ev _ (hr _ (List.getElem_mem hi))) (Ev.pos rfl (hn trivial)))))

def sumLen (l : List (List Int)) : Nat := (l.map List.length).sum
def upRows (k : Int) : List (List Int) → List (List Int)
  | [] => []
  | r :: t => upFrom k r.length :: upRows (k + (r.length : Int)) t
theorem upRows_length (k : Int) (l : List (List Int)) : (upRows k l).length = l.length := by
  induction l generalizing k with
  | nil => rfl
  | cons r t ih => simp [upRows, ih]
theorem sumLen_snoc (l : List (List Int)) (r : List Int) : sumLen (l ++ [r]) = sumLen l + r.length := by simp [sumLen]
theorem upRows_snoc (k : Int) (l : List (List Int)) (r : List Int) : upRows k (l ++ [r]) = upRows k l ++ [upFrom (k + (sumLen l : Int)) r.length] := by
  induction l generalizing k with
  | nil => simp [upRows, sumLen]
  | cons a t ih => simp only [List.cons_append, upRows, ih, sumLen, List.map_cons, List.sum_cons]; rw [show k + (a.length : Int) + ((List.map List.length t).sum : Nat) = k + ((a.length + (List.map List.length t).sum : Nat) : Int) by omega]
theorem sumLen_take (l : List (List Int)) (i : Nat) (h : i < l.length) : sumLen (l.take (i + 1)) = sumLen (l.take i) + l[i].length := by
  rw [List.take_succ_eq_append_getElem h, sumLen_snoc]
theorem sumLen_le (l : List (List Int)) (i : Nat) : sumLen (l.take i) ≤ sumLen l := by
  unfold sumLen
  conv => rhs; rw [← List.take_append_drop i l]
  rw [List.map_append, List.sum_append]
  exact Nat.le_add_right _ _
theorem laws_markIntSS_ev (l : List (List Int)) (hl : l.length ≤ 1048576) (hs : sumLen l ≤ 1048576) : Ev (fun k => laws_markIntSS.f k l 1) (1 + (sumLen l : Int), upRows 1 l) := by
  unfold laws_markIntSS.f
  have key := ev_up l.length (fun k i => laws_markIntSS.l0 k (upRows 1 (l.take i) ++ l.drop i) (1 + (sumLen (l.take i) : Int)) (i : Int)) (1 + (sumLen l : Int), upRows 1 l) (fun _ => True) trivial ?_ ?_
  · simpa [upRows, sumLen] using key
  · intro _
    refine Ev.succ ?_
    simp only [laws_markIntSS.l0]
    refine Ev.neg (by simp [upRows_length]) ?_
    rw [List.drop_length, List.append_nil, List.take_length]; exact Ev.now _
  · intro i hi _ hn
    have hn := hn trivial
    have hlt : (l.take i).length = i := by rw [List.length_take]; omega
    have hlen : (upRows 1 (l.take i) ++ l.drop i).length = l.length := by rw [List.length_append, upRows_length, hlt, List.length_drop]; omega
    have hi' : i < (upRows 1 (l.take i) ++ l.drop i).length := by omega
    have hg : (upRows 1 (l.take i) ++ l.drop i)[i]'hi' = l[i] := by
      rw [List.getElem_append_right (by rw [upRows_length, hlt]; exact Nat.le_refl _)]
      simp [upRows_length, hlt]
    have h1 := sumLen_take l i hi
    have h2 := sumLen_le l (i + 1)
    refine Ev.succ ?_
    simp only [laws_markIntSS.l0]
    rw [rdL_nat _ i hi', hg, toNat_nat, w64 (x := (i : Int) + 1) (by omega) (by omega)]
    refine Ev.pos (by omega) (Ev.pos (by omega) (Ev.bind (laws_markIntS_ev l[i] (1 + (sumLen (l.take i) : Int)) (by omega) (by omega)) ?_))
    have e : (upRows 1 (l.take i) ++ l.drop i).set i (upFrom (1 + (sumLen (l.take i) : Int)) l[i].length) = upRows 1 (l.take (i + 1)) ++ l.drop (i + 1) := by
      rw [List.set_append_right _ _ (by rw [upRows_length, hlt]; exact Nat.le_refl _), upRows_length, hlt, Nat.sub_self, List.drop_eq_getElem_cons hi, List.set_cons_zero, List.take_succ_eq_append_getElem hi, upRows_snoc, List.append_assoc]; rfl
    dsimp only
    rw [e, show (1 : Int) + (sumLen (l.take i) : Int) + (l[i].length : Int) = 1 + (sumLen (l.take (i + 1)) : Int) by rw [h1]; omega]
    exact hn

theorem upRows_get (k : Int) (l : List (List Int)) (i : Nat) (h : i < l.length) (h' : i < (upRows k l).length) : (upRows k l)[i]'h' = upFrom (k + (sumLen (l.take i) : Int)) l[i].length := by
  induction l generalizing k i with
  | nil => cases h
  | cons r t ih =>
    cases i with
    | zero => simp [upRows, sumLen]
    | succ i =>
      simp only [upRows, List.getElem_cons_succ]
      rw [ih (k + (r.length : Int)) i (by simpa using h)]
      simp only [sumLen, List.take_succ_cons, List.map_cons, List.sum_cons]
      rw [show k + (r.length : Int) + ((List.map List.length (List.take i t)).sum : Nat) = k + ((r.length + (List.map List.length (List.take i t)).sum : Nat) : Int) by omega]
theorem laws_heldIntSS_ev (l : List (List Int)) (hl : l.length ≤ 1048576) (hs : sumLen l ≤ 1048576) : Ev (fun k => laws_heldIntSS.f k (upRows 1 l) 1) (1 + (sumLen l : Int)) := by
  unfold laws_heldIntSS.f
  have key := ev_up l.length (fun k i => laws_heldIntSS.l0 k (upRows 1 l) (1 + (sumLen (l.take i) : Int)) (i : Int)) (1 + (sumLen l : Int)) (fun _ => True) trivial ?_ ?_
  · simpa [sumLen] using key
  · intro _
    refine Ev.succ ?_
    simp only [laws_heldIntSS.l0]
    refine Ev.neg (by simp [upRows_length]) ?_
    rw [List.take_length]; exact Ev.now _
  · intro i hi _ hn
    have hn := hn trivial
    have hi' : i < (upRows 1 l).length := by rw [upRows_length]; exact hi
    have h1 := sumLen_take l i hi
    have h2 := sumLen_le l (i + 1)
    refine Ev.succ ?_
    simp only [laws_heldIntSS.l0]
    rw [rdL_nat _ i hi', upRows_get 1 l i hi hi', w64 (x := (i : Int) + 1) (by omega) (by omega)]
    refine Ev.pos (by omega) (Ev.pos (by omega) (Ev.bind (laws_heldIntS_ev l[i].length (1 + (sumLen (l.take i) : Int)) (by omega) (by omega)) (Ev.neg (by omega) ?_)))
    rw [show (1 : Int) + (sumLen (l.take i) : Int) + (l[i].length : Int) = 1 + (sumLen (l.take (i + 1)) : Int) by rw [h1]; omega]
    exact hn

theorem moreF_bounds (flow : List Int) (p : Int) : (moreF flow p).1.length ≤ 41 ∧ (∀ r ∈ (moreF flow p).1, r.length ≤ 8) := by
  unfold moreF
  split
  · rename_i hc
    simp only [kindsOk, Bool.and_eq_true, decide_eq_true_eq] at hc
    have hk := (flowOk_iff flow).mp hc.1
    dsimp only
    refine ⟨by rw [moreOf_length]; unfold moreN; omega, fun r hr => ?_⟩
    unfold moreOf at hr
    obtain ⟨t, _, rfl⟩ := List.mem_map.mp hr
    rw [shareUp_length]; omega
  · exact ⟨by simp, fun r hr => by cases hr⟩
theorem sumLen_bound (l : List (List Int)) (c : Nat) (h : ∀ r ∈ l, r.length ≤ c) : sumLen l ≤ c * l.length := by
  induction l with
  | nil => simp [sumLen]
  | cons a t ih =>
    have h1 := ih fun r hr => h r (List.mem_cons_of_mem _ hr)
    have h2 := h a List.mem_cons_self
    simp only [sumLen, List.map_cons, List.sum_cons, List.length_cons] at h1 ⊢
    rw [Nat.mul_succ]; omega
theorem FnExactShareMore : laws_FnExactShareMore.Pure := by
  intro l0 p _ _ _ _
  refine Ev.rounds (g := fun k => laws_FnExactShareMore.f k l0 p) ?_
  unfold laws_FnExactShareMore.f
  refine Ev.ite (fun _ => Ev.now _) fun h0 => ?_
  have t0 := laws_toIntS_ev l0 (by omega)
  have e0 := laws_eqIntS_ev l0 (by omega)
  have hI := impl_ShareMore_ev l0 p (by omega)
  have hS := spec_ShareMore_ev l0 p (by omega)
  have hlen := moreF_bounds l0 p
  revert hI hS hlen
  generalize moreF l0 p = R
  obtain ⟨g, b⟩ := R
  intro hI hS hlen
  dsimp only at hlen
  have hsum := sumLen_bound g 8 hlen.2
  have eg := laws_eqIntSS_ev g (by omega) (fun r hr => by have := hlen.2 r hr; omega)
  have mg := laws_markIntSS_ev g (by omega) (by omega)
  have hg := laws_heldIntSS_ev g (by omega) (by omega)
  have m0 := laws_markIntS_ev l0 1 (by omega) (by omega)
  refine Ev.bind t0 (Ev.bind hS (Ev.bind t0 (Ev.bind hI (Ev.bind eg (Ev.pos rfl ?_)))))
  refine Ev.succ ?_
  simp only [laws_FnExactShareMore.j0, bne_self_eq_false, Bool.false_eq_true, if_false]
  refine Ev.bind t0 (Ev.bind e0 (Ev.pos rfl (Ev.bind m0 (Ev.neg (by dsimp only; omega) (Ev.bind eg (Ev.pos rfl ?_))))))
  refine Ev.succ ?_
  simp only [laws_FnExactShareMore.j1, Bool.false_eq_true, if_false]
  refine Ev.bind mg (Ev.bind hg (Ev.neg (by omega) (Ev.pos rfl (Ev.bind t0 (Ev.bind hI (Ev.bind eg (Ev.pos rfl ?_)))))))
  refine Ev.succ ?_
  simp only [laws_FnExactShareMore.j2, bne_self_eq_false, Bool.false_eq_true, if_false]
  exact Ev.bind hg (Ev.neg (by omega) (Ev.pos rfl (Ev.now _)))
end Go.Proofs.Ytpagpbamdpllnaa.Pure
