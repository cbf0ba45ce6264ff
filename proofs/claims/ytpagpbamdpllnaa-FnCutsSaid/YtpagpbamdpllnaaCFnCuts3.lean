/- The most that flows is as much as the narrowest cut is wide (Ford and Fulkerson; Menger), for drawn nets: no condition but the statement's own. -/
import Derived.Test.YtpagpbamdpllnaaCFnCuts0
import Derived.Test.YtpagpbamdpllnaaCFnCuts1
import Derived.Test.YtpagpbamdpllnaaCFnCuts2
set_option linter.unusedVariables false
set_option linter.unusedSimpArgs false
namespace Go.Proofs.Ytpagpbamdpllnaa.Print
open Go.RowKit Go.Proofs.YtpagpbamdpllnaaW.PrintWords Go.Proofs.YtpagpbamdpllnaaW.PrintLast Go.Proofs.YtpagpbamdpllnaaW.PrintMore
attribute [local go_sem] max2_int min2_int max_two min_two max_three min_three max_four min_four

theorem spec_l1Cur_netFlow.low {α:Type} {d:Kd α} {e base:Nat} {W:World} {ok:Nat→Prop} {v:Value} {xs:List α} (h:Kd.S d e W base ok v xs):Kd.S d e W base (fun k_=>k_<W.heap.size∧ok k_) v xs:=Kd.S_mono (Kd.S_bound h) (fun _ hk=>⟨hk.2.2.1,hk.1⟩)
theorem spec_l1Cur_netFlow.high {α:Type} {d:Kd α} {e base Z:Nat} {W:World} {ok:Nat→Prop} {v:Value} {xs:List α} (h:Kd.S d e W base ok v xs) (hz:Z≤base):Kd.S d e W base (fun k_=>Z≤k_) v xs:=Kd.S_mono (Kd.S_bound h) (fun _ hk=>Nat.le_trans hz hk.2.1)
mutual
def spec_l1Cur_netFlow.l0:Nat→List (List Int)→List (List Int)→Int→Int→List Int→Int→Int→Option ((List (List Int))×(List (List Int))×Int×Int)
  |0,_,_,_,_,_,_,_=>none
  |k+1,x4,x5,x13,x14,x1000,x1001,x1002=>if x14<x13 then (if 0≤(x4.length:Int) then (if ((x4.length:Int):Int).toNat≤35184372088832 then (if x5.length<5864062014805 then (spec_l1Cur_netFlow.l0 k x4 (x5 ++ [(List.replicate ((x4.length:Int):Int).toNat 0)]) x13 (wrap64 (x14+1)) x1000 x1001 x1002) else (none)) else (none)) else (none)) else ((spec_l1Cur_pick.f x1000 x1001 x1002 4).bind fun bt112=>(spec_l1Cur_netFlow.l1 k x4 x5 bt112.1 x1000 bt112.2.1 bt112.2.2))
def spec_l1Cur_netFlow.j2:Nat→List (List Int)→List (List Int)→List Int→Int→Int→Option ((List (List Int))×(List (List Int))×Int×Int)
  |0,_,_,_,_,_=>none
  |k+1,x4,x5,x1000,x1001,x1002=>if (x5.length:Int) > 1 then ((spec_l1Cur_one.f x1000 x1001 x1002 8).bind fun bt125=>(if bt125.1=true then (if 0<(x5.length:Int) then (if 1<((rd_L2 x5 0).length:Int) then ((spec_l1Cur_pick.f x1000 bt125.2.1 bt125.2.2 3).bind fun bt130=>(some (x4,(x5.set (0:Int).toNat ((rd_L2 x5 0).set (1:Int).toNat (wrap64 ((rd (rd_L2 x5 0) 1)+(wrap64 (bt130.1 - 1)))))),bt130.2.1,bt130.2.2))) else (none)) else (none)) else (some (x4,x5,bt125.2.1,bt125.2.2)))) else (some (x4,x5,x1001,x1002))
def spec_l1Cur_netFlow.l1:Nat→List (List Int)→List (List Int)→Int→List Int→Int→Int→Option ((List (List Int))×(List (List Int))×Int×Int)
  |0,_,_,_,_,_,_=>none
  |k+1,x4,x5,x6,x1000,x1001,x1002=>if x6 > 0 then ((spec_NextWay.f k x4 x5).bind fun bt115=>(if bt115.2.2=true then (if bt115.2.1=true then ((spec_PushWay.f k x4 x5 bt115.1).bind fun bt120=>(spec_l1Cur_netFlow.l1 k x4 bt120.1 (wrap64 (x6 - 1)) x1000 x1001 x1002)) else (spec_l1Cur_netFlow.j2 k x4 x5 x1000 x1001 x1002)) else (spec_l1Cur_netFlow.j2 k x4 x5 x1000 x1001 x1002))) else (spec_l1Cur_netFlow.j2 k x4 x5 x1000 x1001 x1002)
end
def spec_l1Cur_netFlow.f (k:Nat) (s0_0:List Int) (s0_1:Int) (s0_2:Int):Option ((List (List Int))×(List (List Int))×Int×Int):=(spec_l1Cur_net.f k s0_0 s0_1 s0_2).bind fun bt101=>(spec_l1Cur_netFlow.l0 k bt101.1 ([]:List (List Int)) (bt101.1.length:Int) 0 s0_0 bt101.2.1 bt101.2.2)
def spec_l1Cur_netFlow.T14:Bool×List (List Nat×List Nat):=(true,[([],[]),([0],[0]),([1],[1]),([2],[2]),([3],[3]),([],[]),([5],[5]),([6],[6]),([4,7],[4,7]),([2,0,1,2,3,4,5,6,7,8],[2]),([9,8,6,0,1,2,3,4,5,6,7,8],[8,9])])
def spec_l1Cur_netFlow.B14:List Nat:=[0,1,3,7,15,0,32,96,255,511,1023]
theorem spec_l1Cur_netFlow.tab14:rtab .any (opsOf Try.f177 14)=spec_l1Cur_netFlow.T14:=by kernel_rfl
theorem spec_l1Cur_netFlow.bits14:waitsOk spec_l1Cur_netFlow.T14.2 spec_l1Cur_netFlow.B14=true:=by kernel_rfl
set_option maxHeartbeats 8000000 in
set_option maxRecDepth 100000 in
theorem spec_l1Cur_netFlow.calls (k:Nat) (g:Nat) (s0_0:List Int) (s0_1:Int) (s0_2:Int) (r1:List (List Int)) (r2:List (List Int)) (r3:Int) (r4:Int) (w0 w:World) (hI:IsS117 w0 w g s0_0 s0_1 s0_2) (hB:Below w0.heap.size w0 w) (h:spec_l1Cur_netFlow.f k s0_0 s0_1 s0_2=some (r1,r2,r3,r4)) :
    Calls Try.prog 177 #[.pointer (some ⟨g,0,none⟩)] w fun e w'=>∃ v0_ v1_:Value,e= .returned (.tuple #[v0_,v1_])∧Kd.S (Kd.slice 3 (Kd.int .i64)) 23 w' w.heap.size (fun k_=>some k_≠(v1_:Value).ownBlock) v0_ r1∧Kd.S (Kd.slice 3 (Kd.int .i64)) 23 w' w.heap.size (fun k_=>some k_≠(v0_:Value).ownBlock) v1_ r2∧IsS117 w0 w' g s0_0 r3 r4∧Below w0.heap.size w0 w'∧KeepBut w w' g none:=by
  have HI0:=aM hI;have HK:=aM (KeepBut.refl w g none);have HL:=aM hB.size;clear hI;have HW0:=aM hB.size;have HB:=aM hB;clear hB;have H:((spec_l1Cur_net.f k s0_0 s0_1 s0_2).bind fun bt101=>(spec_l1Cur_netFlow.l0 k bt101.1 ([]:List (List Int)) (bt101.1.length:Int) 0 s0_0 bt101.2.1 bt101.2.2))=some (r1,r2,r3,r4):=h;clear h;replace H:=Option.bind_eq_some_iff.mp H;obtain ⟨⟨t101,t104,t105⟩,A20,H⟩:=H;replace H:(spec_l1Cur_netFlow.l0 k t101 ([]:List (List Int)) (t101.length:Int) 0 s0_0 t104 t105)=some (r1,r2,r3,r4):=H;have A2:=aM A20;clear A20;have H':=aM H;clear H;go_enter Try.func177,Try.ntmps177;go_wp2_with (first|((with_reducible refine Qh (f:=196) rfl ?_);refine goesL_ (some 11) rfl rfl Try.func196 (by kernel_rfl) rfl #[.pointer (some ⟨g,0,none⟩)] rfl (by (try simp only [aD,aE,aF]);first|done|rfl|(simp only [aG,aH];rfl)) ?_;(with_reducible refine (spec_l1Cur_net.calls k g s0_0 s0_1 s0_2 t101 t104 t105 w0 _ ?side1 ?side2 A2.out).mono ?_);(case side1=>repeat (first|(with_reducible first|exact HI0.out|apply IsS117.alloc|apply IsS117.drewN|apply IsS117.drew|apply IsS117.set_1|apply IsS117.set_2)|exact HI0.out));(case side2=>repeat (first|(with_reducible first|exact HB.out|apply Qb|apply Qa|apply Qc|refine Qg ?_ (IsS117.ge HI0.out))|exact HB.out));rintro e w3 ⟨v102,rfl,ho0,hi,hb,hk⟩;refine ⟨_,rfl,?_⟩;have n0_:=aM (Kd.S_lower ho0 (keep_size (w:=w) (g:=g) (row:=none) (by repeat (first|(with_reducible first|exact HK.out|apply KeepBut.set_|apply Qo|apply Qr|apply Qp)|exact HK.out))));have n1_:=aM (KeepBut.trans (by repeat (first|(with_reducible first|exact HK.out|apply KeepBut.set_|apply Qo|apply Qr|apply Qp)|exact HK.out)) hk (.inl rfl));have n2_:=aM (hb);have n3_:=aM (hi);clear HK;clear HB;clear HI0;have HO103:=n0_;have HK:=n1_;have HB:=n2_;have HI0:=n3_;clear n0_ n1_ n2_ n3_;(try clear hb);(try clear hb2);(try clear hk);(try clear hi);(try clear ho0);obtain ⟨Ao4,co4,eo4⟩:=Kd.S_slice HO103.out;subst eo4;obtain ⟨Z_,hZ_⟩:∃ z_:Nat,z_=w3.heap.size:=⟨_,rfl⟩;have nq_:=spec_l1Cur_netFlow.low HO103.out;rw [←hZ_] at nq_;have HZ:=aM (Nat.le_of_eq hZ_);clear HO103 hZ_;have HO103:=aM nq_;clear nq_))
  go_loopg [5,14] k (fun kq v5 v14 w'=>∃ (x5_1:List (List Int)) (x14_1:Int),v14= .int .i64 x14_1∧Aside0 (spec_l1Cur_netFlow.l0 kq t101 x5_1 (t101.length:Int) x14_1 s0_0 t104 t105=some (r1,r2,r3,r4))∧Aside0 (kq≤k)∧Aside0 (Kd.S (Kd.slice 3 (Kd.int .i64)) 23 w' w.heap.size (fun k_=>k_<Z_∧some k_≠(v5:Value).ownBlock) (.slice Ao4 t101.length co4) t101)∧Aside0 (Kd.S (Kd.slice 3 (Kd.int .i64)) 23 w' w.heap.size (fun k_=>Z_≤k_∧some k_≠((.slice Ao4 t101.length co4):Value).ownBlock) v5 x5_1)∧Aside0 (IsS117 w0 w' g s0_0 t104 t105)∧Aside0 (KeepBut w w' g none)∧Aside0 (Below w0.heap.size w0 w')∧Aside0 (Z_≤w'.heap.size))
  case atStart=>exact ⟨(([]:List (List Int))),(0),(by first|rfl|(simp;done)|(simp [*];done)),H',⟨Nat.le_refl _⟩,⟨by (with_reducible repeat (first|apply Kd.Qj|apply Kd.Qi|apply Kd.S_drew));exact Kd.S_mono HO103.out (fun _ hk=>⟨hk.1,by simp [Value.ownBlock]⟩)⟩,⟨by first|exact Kd.S_nil _ _ _ _ _|exact Kd.N_nil _ _ _ _ _|exact Kd.V_nil _ _ _ _ _|exact Kd.Q_nil _ _ _ _ _|exact Kd.R_nil _ _ _ _ _⟩,⟨by repeat (first|(with_reducible first|exact HI0.out|apply IsS117.alloc|apply IsS117.drewN|apply IsS117.drew|apply IsS117.set_1|apply IsS117.set_2)|exact HI0.out)⟩,⟨by repeat (first|(with_reducible first|exact HK.out|apply KeepBut.set_|apply Qo|apply Qr|apply Qp)|exact HK.out)⟩,⟨by repeat (first|(with_reducible first|exact HB.out|apply Qb|apply Qa|apply Qc|refine Qg ?_ (IsS117.ge HI0.out))|exact HB.out)⟩,⟨by first|exact HZ.out|exact Nat.le_trans HZ.out (by simp)⟩⟩
  case round=>
   clear H';(try clear c1);(try clear p2);obtain ⟨x5_1,x14_1,rfl,HA,HK1,HO_4,HO_5,HI0,HK,HB,HZ⟩:=hrel
   cases gk with
   |zero=>exact absurd HA.out (by simp [spec_l1Cur_netFlow.l0])
   |succ k1=>
    have H:=HA.out;clear HA;simp only [spec_l1Cur_netFlow.l0] at H;by_cases c5:x14_1<(t101.length:Int)
    ·rw [if_pos c5] at H;have c5b0:decide (x14_1<(t101.length:Int))=true:=decide_eq_true c5;clear c5;by_cases c6:0≤(t101.length:Int)
     ·rw [if_pos c6] at H;have c6b0:=eq_true c6;have c6b1:decide (0≤(t101.length:Int))=true:=decide_eq_true c6;clear c6;by_cases c7:((t101.length:Int):Int).toNat≤35184372088832
      ·rw [if_pos c7] at H;have c7b0:=eq_true c7;have c7b1:decide (((t101.length:Int):Int).toNat≤35184372088832)=true:=decide_eq_true c7;clear c7;obtain ⟨y106,hy106⟩:∃ y_:List Int,y_=(List.replicate ((t101.length:Int):Int).toNat 0):=⟨_,rfl⟩;replace H:(if x5_1.length<5864062014805 then (spec_l1Cur_netFlow.l0 k1 t101 (x5_1 ++ [y106]) (t101.length:Int) (wrap64 (x14_1+1)) s0_0 t104 t105) else (none))=some (r1,r2,r3,r4):=by first|(rw [hy106];with_reducible exact H)|(have H2_:=(Option.bind_some _ _).symm.trans H;rw [hy106];with_reducible exact H2_)|(have H2_:=(Option.bind_some _ _).symm.trans H;with_reducible exact H2_)|with_reducible exact H|(rw [hy106];exact H)|exact H
       have Ny106:=aM hy106;clear hy106;by_cases c8:x5_1.length<5864062014805
       ·rw [if_pos c8] at H;have LMc8:=aM c8;clear c8;obtain ⟨y109,hy109⟩:∃ y_:List (List Int),y_=(x5_1 ++ [y106]):=⟨_,rfl⟩;replace H:(spec_l1Cur_netFlow.l0 k1 t101 y109 (t101.length:Int) (wrap64 (x14_1+1)) s0_0 t104 t105)=some (r1,r2,r3,r4):=by first|(rw [hy109];with_reducible exact H)|(have H2_:=(Option.bind_some _ _).symm.trans H;rw [hy109];with_reducible exact H2_)|(have H2_:=(Option.bind_some _ _).symm.trans H;with_reducible exact H2_)|with_reducible exact H|(rw [hy109];exact H)|exact H
        have Ny109:=aM hy109;clear hy109;have H':=aM H;clear H;go_wp2_with (first|((with_reducible refine gate_dst (N:=19) rfl ?_);refine Kd.R_make (Kd.int .i64) _ 3 rfl (N:=19) rfl 23 _ _ rfl (t101.length:Int) rfl rfl Try.underlying23 (.int .i64 0) 8 info3 rfl (by decide) (by omega) 0 (ok:=fun _=>True) (okp:=fun _=>True) rfl (fun _ hk=>hk) trivial (of_decide_eq_true (by first|(with_reducible assumption)|assumption)) (Nat.le_trans (Nat.mul_le_mul_right _ (of_decide_eq_true (by first|(with_reducible assumption)|assumption):(t101.length:Int).toNat≤35184372088832)) (by omega)) (Below.refl _ _) (Nat.le_refl _) ?_;intro v107 w9 ho10 hb hg_ hnew_;clear hg_ hnew_;(first|rw [←Ny106.out] at ho10|(simp only [Int.reduceToNat] at ho10;rw [←Ny106.out] at ho10));have n0_:=aM (Kd.S_elder' (by (with_reducible repeat (first|apply Kd.Qj|apply Kd.Qi|apply Kd.S_drew));exact HO_4.out) (Kd.R_base ho10) hb);have n1_:=aM (Kd.S_elder' (by (with_reducible repeat (first|apply Kd.Qj|apply Kd.Qi|apply Kd.S_drew));exact HO_5.out) (Kd.R_base ho10) hb);have n2_:=aM (Kd.R_lower (Kd.R_mono (ok':=fun k_=>Z_≤k_) (Kd.R_bound ho10) (fun _ hk=>Nat.le_trans HZ.out hk.2.1)) (keep_size (w:=w) (g:=g) (row:=none) (by repeat (first|(with_reducible first|exact HK.out|apply KeepBut.set_|apply Qo|apply Qr|apply Qp)|exact HK.out))));have n3_:=aM (IsS117.below (by repeat (first|(with_reducible first|exact HI0.out|apply IsS117.alloc|apply IsS117.drewN|apply IsS117.drew|apply IsS117.set_1|apply IsS117.set_2)|exact HI0.out)) hb);have n4_:=aM (KeepBut.trans (by repeat (first|(with_reducible first|exact HK.out|apply KeepBut.set_|apply Qo|apply Qr|apply Qp)|exact HK.out)) (KeepBut.of_below hb g none) (.inl rfl));have n5_:=aM (Qm (by repeat (first|(with_reducible first|exact HB.out|apply Qb|apply Qa|apply Qc|refine Qg ?_ (IsS117.ge HI0.out))|exact HB.out)) hb);clear HO_4;clear HO_5;clear HI0;clear HK;clear HB;have HO_4:=n0_;have HO_5:=n1_;have HO108:=n2_;have HI0:=n3_;have HK:=n4_;have HB:=n5_;clear n0_ n1_ n2_ n3_ n4_ n5_;have nz_:=aM (Nat.le_trans HZ.out hb.size);clear HZ;have HZ:=nz_;clear nz_;clear hb ho10;obtain ⟨Ao12,co12,eo12⟩:=Kd.R_slice HO108.out;subst eo12)|((with_reducible refine gate_builtin (b:= .append) (xs:=#[.tmp 16,.tmp 20]) rfl ?_);at_builtin;refine Kd.S_append (Kd.slice 3 (Kd.int .i64)) w.heap.size rfl (.tmp 16) (.tmp 20) 28 23 (.slice none 0 0) 24 rfl Try.underlying28 info23 rfl (by decide) (by omega) u5 x5_1 y106 [.slice Ao12 y106.length co12] (fun k_=>Z_≤k_∧some k_≠(.slice Ao4 t101.length co4:Value).ownBlock) (fun k_=>some k_=(.slice Ao12 y106.length co12:Value).ownBlock) rfl rfl ?aP (fun k_ hk_=>((Kd.R_mono (ok':=fun k_=>((fun k_=>Z_≤k_∧some k_≠(.slice Ao4 t101.length co4:Value).ownBlock)) k_∧some k_≠(u5:Value).ownBlock) (Kd.R_apart' (Kd.R_apart' (HO108.out) (Kd.S_typed HO_4.out) (by decide)) (Kd.S_typed HO_5.out) (by decide)) (fun k_ hk=>⟨⟨hk.1.1,hk.1.2⟩,hk.2⟩))).1 k_ hk_.symm) ?aF ?aO (Below.refl _ _) ?aS ?aL ?_;(case aP=>exact Kd.M_row (Kd.R_mono (Kd.R_tight rfl (Kd.R_mono (ok':=fun k_=>((fun k_=>Z_≤k_∧some k_≠(.slice Ao4 t101.length co4:Value).ownBlock)) k_∧some k_≠(u5:Value).ownBlock) (Kd.R_apart' (Kd.R_apart' (HO108.out) (Kd.S_typed HO_4.out) (by decide)) (Kd.S_typed HO_5.out) (by decide)) (fun k_ hk=>⟨⟨hk.1.1,hk.1.2⟩,hk.2⟩))) (fun _ h_=>h_)));(case aF=>exact (fun k_ hk=>⟨Nat.le_trans HZ.out hk,Kd.fresh' (Kd.S_lt (by (with_reducible repeat (first|apply Kd.Qj|apply Kd.Qi|apply Kd.S_drew));exact HO_4.out)) k_ hk⟩));(case aO=>exact (by (with_reducible repeat (first|apply Kd.Qj|apply Kd.Qi|apply Kd.S_drew));exact Kd.S_mono HO_5.out (fun k_ hk=>⟨hk.1,fun e_=>hk.2 e_⟩)));(case aS=>exact (keep_size (w:=w) (g:=g) (row:=none) (by repeat (first|(with_reducible first|exact HK.out|apply KeepBut.set_|apply Qo|apply Qr|apply Qp)|exact HK.out))));(case aL=>have:=LMc8.out;omega);intro v110 w11 ho hb hg hat;rw [←Ny109.out] at ho;have n0_:=aM (Kd.S_after (ok:=(fun k_=>k_<Z_∧some k_≠(.slice Ao12 y106.length co12:Value).ownBlock)) (by (with_reducible repeat (first|apply Kd.Qj|apply Kd.Qi|apply Kd.S_drew));exact Kd.S_mono HO_4.out (fun _ hk=>⟨⟨hk.1.1,hk.2⟩,hk.1.2⟩)) hg hat);have n1_:=aM (IsS117.grown (by repeat (first|(with_reducible first|exact HI0.out|apply IsS117.alloc|apply IsS117.drewN|apply IsS117.drew|apply IsS117.set_1|apply IsS117.set_2)|exact HI0.out)) hg (IsS117.own_neS HI0.out HO_5.out (by decide)));have n2_:=aM (below_weaken (by repeat (first|(with_reducible first|exact HB.out|apply Qb|apply Qa|apply Qc|refine Qg ?_ (IsS117.ge HI0.out))|exact HB.out)) HL.out hb);have n3_:=aM (KeepBut.trans (by repeat (first|(with_reducible first|exact HK.out|apply KeepBut.set_|apply Qo|apply Qr|apply Qp)|exact HK.out)) (KeepBut.of_grown hg g) (Kd.S_base2 HO_5.out));have n4_:=aM (ho);clear HO_4;clear HI0;clear HB;clear HK;clear HO_5;clear HO108;have HO_4:=n0_;have HI0:=n1_;have HB:=n2_;have HK:=n3_;have HO111:=n4_;clear n0_ n1_ n2_ n3_ n4_;have nz_:=aM (Nat.le_trans HZ.out hg.size);clear HZ;have HZ:=nz_;clear nz_;clear ho hb hg hat))
        go_roundg k1
        case measure=>have:=HK1.out;omega
        case rel=>exact ⟨(y109),(wrap64 (x14_1+1)),(by first|rfl|(simp;done)|(simp [*];done)),H',⟨by have:=HK1.out;omega⟩,⟨by (with_reducible repeat (first|apply Kd.Qj|apply Kd.Qi|apply Kd.S_drew));exact Kd.S_mono HO_4.out (fun _ hk=>⟨by first|exact hk.1|exact hk.1.1|exact hk.1.1.1|exact hk.1.1.1.1,hk.2⟩)⟩,⟨by (with_reducible repeat (first|apply Kd.Qj|apply Kd.Qi|apply Kd.S_drew));exact HO111.out⟩,⟨by repeat (first|(with_reducible first|exact HI0.out|apply IsS117.alloc|apply IsS117.drewN|apply IsS117.drew|apply IsS117.set_1|apply IsS117.set_2)|exact HI0.out)⟩,⟨by repeat (first|(with_reducible first|exact HK.out|apply KeepBut.set_|apply Qo|apply Qr|apply Qp)|exact HK.out)⟩,⟨by repeat (first|(with_reducible first|exact HB.out|apply Qb|apply Qa|apply Qc|refine Qg ?_ (IsS117.ge HI0.out))|exact HB.out)⟩,⟨by first|exact HZ.out|exact Nat.le_trans HZ.out (by simp)⟩⟩
       ·rw [if_neg c8] at H;exact absurd H (by simp)
      ·rw [if_neg c7] at H;exact absurd H (by simp)
     ·rw [if_neg c6] at H;exact absurd H (by simp)
    ·rw [if_neg c5] at H;have c5b0:decide (x14_1<(t101.length:Int))=false:=decide_eq_false c5;clear c5;replace H:=Option.bind_eq_some_iff.mp H;obtain ⟨⟨t112,t113,t114⟩,A130,H⟩:=H;replace H:(spec_l1Cur_netFlow.l1 k1 t101 x5_1 t112 s0_0 t113 t114)=some (r1,r2,r3,r4):=H;have A13:=aM A130;clear A130;have HC14:=aM H;clear H
     go_upto_block 2 with (first|((with_reducible refine Qh (f:=122) rfl ?_);refine goesL_ (some 24) rfl rfl Try.func122 (by kernel_rfl) rfl #[.pointer (some ⟨g,0,none⟩),.int .i64 4] rfl (by (try simp only [aD,aE,aF]);first|done|rfl|(simp only [aG,aH];rfl)) ?_;(with_reducible refine (spec_l1Cur_pick.calls g s0_0 t104 t105 4 t112 t113 t114 w0 _ ?side1 ?side2 A13.out).mono ?_);(case side1=>repeat (first|(with_reducible first|exact HI0.out|apply IsS117.alloc|apply IsS117.drewN|apply IsS117.drew|apply IsS117.set_1|apply IsS117.set_2)|exact HI0.out));(case side2=>repeat (first|(with_reducible first|exact HB.out|apply Qb|apply Qa|apply Qc|refine Qg ?_ (IsS117.ge HI0.out))|exact HB.out));rintro e w15 ⟨rfl,hi,hb,hk⟩;refine ⟨_,rfl,?_⟩;have nz_:=aM (Nat.le_trans HZ.out hk.1);have n0_:=aM (Kd.S_mono (Kd.S_keep (IsS117.apartS (show IsS117 w0 _ g s0_0 t104 t105 from by repeat (first|(with_reducible first|exact HI0.out|apply IsS117.alloc|apply IsS117.drewN|apply IsS117.drew|apply IsS117.set_1|apply IsS117.set_2)|exact HI0.out)) (by (with_reducible repeat (first|apply Kd.Qj|apply Kd.Qi|apply Kd.S_drew));exact HO_4.out) (by decide)) hk (fun _ h=>h.2)) (fun _ h=>h.1));have n1_:=aM (Kd.S_mono (Kd.S_keep (IsS117.apartS (show IsS117 w0 _ g s0_0 t104 t105 from by repeat (first|(with_reducible first|exact HI0.out|apply IsS117.alloc|apply IsS117.drewN|apply IsS117.drew|apply IsS117.set_1|apply IsS117.set_2)|exact HI0.out)) (by (with_reducible repeat (first|apply Kd.Qj|apply Kd.Qi|apply Kd.S_drew));exact HO_5.out) (by decide)) hk (fun _ h=>h.2)) (fun _ h=>h.1));have n2_:=aM (KeepBut.trans (by repeat (first|(with_reducible first|exact HK.out|apply KeepBut.set_|apply Qo|apply Qr|apply Qp)|exact HK.out)) hk (.inl rfl));have n3_:=aM (hb);have n4_:=aM (hi);clear HO_4;clear HO_5;clear HK;clear HB;clear HI0;have HO_4:=n0_;have HO_5:=n1_;have HK:=n2_;have HB:=n3_;have HI0:=n4_;clear n0_ n1_ n2_ n3_ n4_;clear HZ;have HZ:=nz_;clear nz_;(try clear hb);(try clear hb2);(try clear hk);(try clear hi)))
     (try simp only [Act.put,aA,aB,aC])
     go_cut [5] (fun v5 wc=>∃ (kq:Nat) (x5_13:List (List Int)),Aside0 (spec_l1Cur_netFlow.j2 kq t101 x5_13 s0_0 t113 t114=some (r1,r2,r3,r4))∧Aside0 (kq≤k1)∧Aside0 (Kd.S (Kd.slice 3 (Kd.int .i64)) 23 wc w.heap.size (fun k_=>k_<Z_∧some k_≠(v5:Value).ownBlock) (.slice Ao4 t101.length co4) t101)∧Aside0 (Kd.S (Kd.slice 3 (Kd.int .i64)) 23 wc w.heap.size (fun k_=>Z_≤k_∧some k_≠((.slice Ao4 t101.length co4):Value).ownBlock) v5 x5_13)∧Aside0 (IsS117 w0 wc g s0_0 t113 t114)∧Aside0 (KeepBut w wc g none)∧Aside0 (Below w0.heap.size w0 wc)∧Aside0 (Z_≤wc.heap.size))
     case first=>
      have H:=HC14.out;clear HC14;have H':=aM H;clear H;go_wp2;go_loopg [5,6] k1 (fun kq v5 v6 w'=>∃ (x5_2:List (List Int)) (x6_2:Int),v6= .int .i64 x6_2∧Aside0 (spec_l1Cur_netFlow.l1 kq t101 x5_2 x6_2 s0_0 t113 t114=some (r1,r2,r3,r4))∧Aside0 (kq≤k1)∧Aside0 (Kd.S (Kd.slice 3 (Kd.int .i64)) 23 w' w.heap.size (fun k_=>k_<Z_∧some k_≠(v5:Value).ownBlock) (.slice Ao4 t101.length co4) t101)∧Aside0 (Kd.S (Kd.slice 3 (Kd.int .i64)) 23 w' w.heap.size (fun k_=>Z_≤k_∧some k_≠((.slice Ao4 t101.length co4):Value).ownBlock) v5 x5_2)∧Aside0 (IsS117 w0 w' g s0_0 t113 t114)∧Aside0 (KeepBut w w' g none)∧Aside0 (Below w0.heap.size w0 w')∧Aside0 (Z_≤w'.heap.size))
      case atStart=>exact ⟨(x5_1),(t112),(by first|rfl|(simp;done)|(simp [*];done)),H',⟨Nat.le_refl _⟩,⟨by (with_reducible repeat (first|apply Kd.Qj|apply Kd.Qi|apply Kd.S_drew));exact HO_4.out⟩,⟨by (with_reducible repeat (first|apply Kd.Qj|apply Kd.Qi|apply Kd.S_drew));exact HO_5.out⟩,⟨by repeat (first|(with_reducible first|exact HI0.out|apply IsS117.alloc|apply IsS117.drewN|apply IsS117.drew|apply IsS117.set_1|apply IsS117.set_2)|exact HI0.out)⟩,⟨by repeat (first|(with_reducible first|exact HK.out|apply KeepBut.set_|apply Qo|apply Qr|apply Qp)|exact HK.out)⟩,⟨by repeat (first|(with_reducible first|exact HB.out|apply Qb|apply Qa|apply Qc|refine Qg ?_ (IsS117.ge HI0.out))|exact HB.out)⟩,⟨by first|exact HZ.out|exact Nat.le_trans HZ.out (by simp)⟩⟩
      case round=>
       clear H';(try clear c1);(try clear p2);(try clear c5);(try clear c5b0);(try clear c6);(try clear c6b0);(try clear c6b1);(try clear p6);(try clear c7);(try clear c7b0);(try clear c7b1);(try clear c8);(try clear c12);(try clear p2);obtain ⟨x5_2,x6_2,rfl,HA,HK2,HO_4,HO_5,HI0,HK,HB,HZ⟩:=hrel
       cases gk with
       |zero=>exact absurd HA.out (by simp [spec_l1Cur_netFlow.l1])
       |succ k2=>
        have H:=HA.out;clear HA;simp only [spec_l1Cur_netFlow.l1] at H;by_cases c16:x6_2 > 0
        ·rw [if_pos c16] at H;have c16b0:decide (0<x6_2)=true:=decide_eq_true c16;clear c16
         (first|rw [c16b0]|(simp only [i64_w,i32_w];rw [c16b0])|skip)
         replace H:=Option.bind_eq_some_iff.mp H;obtain ⟨⟨t115,t116,t117⟩,A170,H⟩:=H;replace H:(if t117=true then (if t116=true then ((spec_PushWay.f k2 t101 x5_2 t115).bind fun bt120=>(spec_l1Cur_netFlow.l1 k2 t101 bt120.1 (wrap64 (x6_2 - 1)) s0_0 t113 t114)) else (spec_l1Cur_netFlow.j2 k2 t101 x5_2 s0_0 t113 t114)) else (spec_l1Cur_netFlow.j2 k2 t101 x5_2 s0_0 t113 t114))=some (r1,r2,r3,r4):=H;have A17:=aM A170;clear A170;by_cases c18:t117=true
         ·subst c18;have H1:(if t116=true then ((spec_PushWay.f k2 t101 x5_2 t115).bind fun bt120=>(spec_l1Cur_netFlow.l1 k2 t101 bt120.1 (wrap64 (x6_2 - 1)) s0_0 t113 t114)) else (spec_l1Cur_netFlow.j2 k2 t101 x5_2 s0_0 t113 t114))=some (r1,r2,r3,r4):=by rw [if_pos rfl] at H;exact H
          clear H;have H:=H1;clear H1;by_cases c19:t116=true
          ·subst c19;have H1:((spec_PushWay.f k2 t101 x5_2 t115).bind fun bt120=>(spec_l1Cur_netFlow.l1 k2 t101 bt120.1 (wrap64 (x6_2 - 1)) s0_0 t113 t114))=some (r1,r2,r3,r4):=by rw [if_pos rfl] at H;exact H
           clear H;have H:=H1;clear H1;replace H:=Option.bind_eq_some_iff.mp H;obtain ⟨⟨t120,t121,t122⟩,A200,H⟩:=H;replace H:(spec_l1Cur_netFlow.l1 k2 t101 t120 (wrap64 (x6_2 - 1)) s0_0 t113 t114)=some (r1,r2,r3,r4):=H;have A20:=aM A200;clear A200;have H':=aM H;clear H;obtain ⟨Ao21,co21,eo21⟩:=Kd.S_slice HO_5.out;subst eo21;go_wp2_with (first|((with_reducible refine Qh (f:=99) rfl ?_);refine goesL_ (some 32) rfl rfl Try.func99 (by kernel_rfl) rfl #[.slice Ao4 t101.length co4,.slice Ao21 x5_2.length co21] rfl (by (try simp only [aD,aE,aF]);first|done|rfl|(simp only [aG,aH];rfl)) ?_;(with_reducible refine (spec_NextWay.calls k2 _ _ t101 _ _ x5_2 t115 true true _ ?side1 ?side2 ?side3 ?side4 A17.out).mono ?_);(case side1=>repeat (first|exact (Kd.Qd HO_4.out).2.2|(with_reducible refine Kd.Qe ?_ _)|(with_reducible refine Kd.Qf ?_ _)|(with_reducible refine Kd.C_drew ?_)));(case side2=>exact (Kd.Qd HO_4.out).2.1);(case side3=>repeat (first|exact (Kd.Qd HO_5.out).2.2|(with_reducible refine Kd.Qe ?_ _)|(with_reducible refine Kd.Qf ?_ _)|(with_reducible refine Kd.C_drew ?_)));(case side4=>exact (Kd.Qd HO_5.out).2.1);rintro e w22 ⟨v118,rfl,ho0,hb⟩;refine ⟨_,rfl,?_⟩;have nz_:=aM (Nat.le_trans HZ.out hb.size);have n0_:=aM (Kd.S_elder' (by (with_reducible repeat (first|apply Kd.Qj|apply Kd.Qi|apply Kd.S_drew));exact HO_4.out) (Kd.R_base ho0) hb);have n1_:=aM (Kd.S_elder' (by (with_reducible repeat (first|apply Kd.Qj|apply Kd.Qi|apply Kd.S_drew));exact HO_5.out) (Kd.R_base ho0) hb);have n2_:=aM (Kd.R_lower ho0 (keep_size (w:=w) (g:=g) (row:=none) (by repeat (first|(with_reducible first|exact HK.out|apply KeepBut.set_|apply Qo|apply Qr|apply Qp)|exact HK.out))));have n3_:=aM (IsS117.below (by repeat (first|(with_reducible first|exact HI0.out|apply IsS117.alloc|apply IsS117.drewN|apply IsS117.drew|apply IsS117.set_1|apply IsS117.set_2)|exact HI0.out)) hb);have n4_:=aM (KeepBut.trans (by repeat (first|(with_reducible first|exact HK.out|apply KeepBut.set_|apply Qo|apply Qr|apply Qp)|exact HK.out)) (KeepBut.of_below hb g none) (.inl rfl));have n5_:=aM (Qm (by repeat (first|(with_reducible first|exact HB.out|apply Qb|apply Qa|apply Qc|refine Qg ?_ (IsS117.ge HI0.out))|exact HB.out)) hb);clear HO_4;clear HO_5;clear HI0;clear HK;clear HB;have HO_4:=n0_;have HO_5:=n1_;have HO119:=n2_;have HI0:=n3_;have HK:=n4_;have HB:=n5_;clear n0_ n1_ n2_ n3_ n4_ n5_;clear HZ;have HZ:=nz_;clear nz_;(try clear hb);(try clear hb2);(try clear hk);(try clear hi);(try clear ho0);obtain ⟨Ao23,co23,eo23⟩:=Kd.R_slice HO119.out;subst eo23)|((with_reducible refine Qh (f:=98) rfl ?_);refine goesL_ (some 46) rfl rfl Try.func98 (by kernel_rfl) rfl #[.slice Ao4 t101.length co4,.slice Ao21 x5_2.length co21,.slice Ao23 t115.length co23] rfl (by (try simp only [aD,aE,aF]);first|done|rfl|(simp only [aG,aH];rfl)) ?_;(with_reducible refine (spec_PushWay.calls k2 _ _ t101 _ _ x5_2 _ _ t115 t120 t121 t122 _ ?side1 ?side2 ?side3 ?side4 ?side5 ?side6 A20.out).mono ?_);(case side1=>repeat (first|exact (Kd.Qd HO_4.out).2.2|(with_reducible refine Kd.Qe ?_ _)|(with_reducible refine Kd.Qf ?_ _)|(with_reducible refine Kd.C_drew ?_)));(case side2=>exact (Kd.Qd HO_4.out).2.1);(case side3=>repeat (first|exact (Kd.Qd HO_5.out).2.2|(with_reducible refine Kd.Qe ?_ _)|(with_reducible refine Kd.Qf ?_ _)|(with_reducible refine Kd.C_drew ?_)));(case side4=>exact (Kd.Qd HO_5.out).2.1);(case side5=>repeat (first|exact (Kd.Qq HO119.out).2.2|(with_reducible refine Kd.Qe ?_ _)|(with_reducible refine Kd.Qf ?_ _)|(with_reducible refine Kd.C_drew ?_)));(case side6=>exact (Kd.Qq HO119.out).2.1);rintro e w24 ⟨v123,rfl,ho0,hb⟩;refine ⟨_,rfl,?_⟩;have nz_:=aM (Nat.le_trans HZ.out hb.size);have n0_:=aM (Kd.S_elder' (by (with_reducible repeat (first|apply Kd.Qj|apply Kd.Qi|apply Kd.S_drew));exact HO_4.out) (Kd.S_base ho0) hb);have n1_:=aM (Kd.S_elder' (by (with_reducible repeat (first|apply Kd.Qj|apply Kd.Qi|apply Kd.S_drew));exact HO_5.out) (Kd.S_base ho0) hb);have n2_:=aM (Kd.R_below (by (with_reducible repeat (first|apply Kd.Qk|apply Kd.Ql|apply Kd.R_drew));exact HO119.out) hb);have n3_:=aM (Kd.S_lower (Kd.S_new' (Kd.S_new' (Kd.S_new' (spec_l1Cur_netFlow.high ho0 HZ.out) (Kd.S_lt (by (with_reducible repeat (first|apply Kd.Qj|apply Kd.Qi|apply Kd.S_drew));exact HO_4.out))) (Kd.S_lt (by (with_reducible repeat (first|apply Kd.Qj|apply Kd.Qi|apply Kd.S_drew));exact HO_5.out))) (Kd.R_lt (by (with_reducible repeat (first|apply Kd.Qk|apply Kd.Ql|apply Kd.R_drew));exact HO119.out))) (keep_size (w:=w) (g:=g) (row:=none) (by repeat (first|(with_reducible first|exact HK.out|apply KeepBut.set_|apply Qo|apply Qr|apply Qp)|exact HK.out))));have n4_:=aM (IsS117.below (by repeat (first|(with_reducible first|exact HI0.out|apply IsS117.alloc|apply IsS117.drewN|apply IsS117.drew|apply IsS117.set_1|apply IsS117.set_2)|exact HI0.out)) hb);have n5_:=aM (KeepBut.trans (by repeat (first|(with_reducible first|exact HK.out|apply KeepBut.set_|apply Qo|apply Qr|apply Qp)|exact HK.out)) (KeepBut.of_below hb g none) (.inl rfl));have n6_:=aM (Qm (by repeat (first|(with_reducible first|exact HB.out|apply Qb|apply Qa|apply Qc|refine Qg ?_ (IsS117.ge HI0.out))|exact HB.out)) hb);clear HO_4;clear HO_5;clear HO119;clear HI0;clear HK;clear HB;have HO_4:=n0_;have HO_5:=n1_;have HO119:=n2_;have HO124:=n3_;have HI0:=n4_;have HK:=n5_;have HB:=n6_;clear n0_ n1_ n2_ n3_ n4_ n5_ n6_;clear HZ;have HZ:=nz_;clear nz_;(try clear hb);(try clear hb2);(try clear hk);(try clear hi);(try clear ho0)))
           go_roundg k2
           case measure=>have:=HK1.out;have:=HK2.out;omega
           case rel=>exact ⟨(t120),(wrap64 (x6_2 - 1)),(by first|rfl|(simp;done)|(simp [*];done)),H',⟨by have:=HK1.out;have:=HK2.out;omega⟩,⟨by (with_reducible repeat (first|apply Kd.Qj|apply Kd.Qi|apply Kd.S_drew));exact Kd.S_mono HO_4.out (fun _ hk=>⟨by first|exact hk.1|exact hk.1.1|exact hk.1.1.1|exact hk.1.1.1.1,hk.2⟩)⟩,⟨by (with_reducible repeat (first|apply Kd.Qj|apply Kd.Qi|apply Kd.S_drew));exact Kd.S_mono HO124.out (fun _ hk=>⟨hk.1.1.1,hk.1.1.2⟩)⟩,⟨by repeat (first|(with_reducible first|exact HI0.out|apply IsS117.alloc|apply IsS117.drewN|apply IsS117.drew|apply IsS117.set_1|apply IsS117.set_2)|exact HI0.out)⟩,⟨by repeat (first|(with_reducible first|exact HK.out|apply KeepBut.set_|apply Qo|apply Qr|apply Qp)|exact HK.out)⟩,⟨by repeat (first|(with_reducible first|exact HB.out|apply Qb|apply Qa|apply Qc|refine Qg ?_ (IsS117.ge HI0.out))|exact HB.out)⟩,⟨by first|exact HZ.out|exact Nat.le_trans HZ.out (by simp)⟩⟩
          ·replace c19:=Bool.eq_false_iff.mpr c19;subst c19;have H1:(spec_l1Cur_netFlow.j2 k2 t101 x5_2 s0_0 t113 t114)=some (r1,r2,r3,r4):=by rw [if_neg (show ¬ (false=true) by decide)] at H;exact H
           clear H;have H:=H1;clear H1;have H':=aM H;clear H;obtain ⟨Ao25,co25,eo25⟩:=Kd.S_slice HO_5.out;subst eo25;go_wp2_with (first|((with_reducible refine Qh (f:=99) rfl ?_);refine goesL_ (some 32) rfl rfl Try.func99 (by kernel_rfl) rfl #[.slice Ao4 t101.length co4,.slice Ao25 x5_2.length co25] rfl (by (try simp only [aD,aE,aF]);first|done|rfl|(simp only [aG,aH];rfl)) ?_;(with_reducible refine (spec_NextWay.calls k2 _ _ t101 _ _ x5_2 t115 false true _ ?side1 ?side2 ?side3 ?side4 A17.out).mono ?_);(case side1=>repeat (first|exact (Kd.Qd HO_4.out).2.2|(with_reducible refine Kd.Qe ?_ _)|(with_reducible refine Kd.Qf ?_ _)|(with_reducible refine Kd.C_drew ?_)));(case side2=>exact (Kd.Qd HO_4.out).2.1);(case side3=>repeat (first|exact (Kd.Qd HO_5.out).2.2|(with_reducible refine Kd.Qe ?_ _)|(with_reducible refine Kd.Qf ?_ _)|(with_reducible refine Kd.C_drew ?_)));(case side4=>exact (Kd.Qd HO_5.out).2.1);rintro e w26 ⟨v118,rfl,ho0,hb⟩;refine ⟨_,rfl,?_⟩;have nz_:=aM (Nat.le_trans HZ.out hb.size);have n0_:=aM (Kd.S_elder' (by (with_reducible repeat (first|apply Kd.Qj|apply Kd.Qi|apply Kd.S_drew));exact HO_4.out) (Kd.R_base ho0) hb);have n1_:=aM (Kd.S_elder' (by (with_reducible repeat (first|apply Kd.Qj|apply Kd.Qi|apply Kd.S_drew));exact HO_5.out) (Kd.R_base ho0) hb);have n2_:=aM (Kd.R_lower ho0 (keep_size (w:=w) (g:=g) (row:=none) (by repeat (first|(with_reducible first|exact HK.out|apply KeepBut.set_|apply Qo|apply Qr|apply Qp)|exact HK.out))));have n3_:=aM (IsS117.below (by repeat (first|(with_reducible first|exact HI0.out|apply IsS117.alloc|apply IsS117.drewN|apply IsS117.drew|apply IsS117.set_1|apply IsS117.set_2)|exact HI0.out)) hb);have n4_:=aM (KeepBut.trans (by repeat (first|(with_reducible first|exact HK.out|apply KeepBut.set_|apply Qo|apply Qr|apply Qp)|exact HK.out)) (KeepBut.of_below hb g none) (.inl rfl));have n5_:=aM (Qm (by repeat (first|(with_reducible first|exact HB.out|apply Qb|apply Qa|apply Qc|refine Qg ?_ (IsS117.ge HI0.out))|exact HB.out)) hb);clear HO_4;clear HO_5;clear HI0;clear HK;clear HB;have HO_4:=n0_;have HO_5:=n1_;have HO119:=n2_;have HI0:=n3_;have HK:=n4_;have HB:=n5_;clear n0_ n1_ n2_ n3_ n4_ n5_;clear HZ;have HZ:=nz_;clear nz_;(try clear hb);(try clear hb2);(try clear hk);(try clear hi);(try clear ho0)))
           go_meet
           case rel=>exact ⟨_,(x5_2),H',⟨by have:=HK1.out;have:=HK2.out;first|omega|exact Nat.le_refl _⟩,⟨by (with_reducible repeat (first|apply Kd.Qj|apply Kd.Qi|apply Kd.S_drew));exact Kd.S_mono HO_4.out (fun _ hk=>hk.1)⟩,⟨by (with_reducible repeat (first|apply Kd.Qj|apply Kd.Qi|apply Kd.S_drew));exact Kd.S_mono HO_5.out (fun _ hk=>hk.1)⟩,⟨by repeat (first|(with_reducible first|exact HI0.out|apply IsS117.alloc|apply IsS117.drewN|apply IsS117.drew|apply IsS117.set_1|apply IsS117.set_2)|exact HI0.out)⟩,⟨by repeat (first|(with_reducible first|exact HK.out|apply KeepBut.set_|apply Qo|apply Qr|apply Qp)|exact HK.out)⟩,⟨by repeat (first|(with_reducible first|exact HB.out|apply Qb|apply Qa|apply Qc|refine Qg ?_ (IsS117.ge HI0.out))|exact HB.out)⟩,⟨by first|exact HZ.out|exact Nat.le_trans HZ.out (by simp)⟩⟩
         ·replace c18:=Bool.eq_false_iff.mpr c18;subst c18;have H1:(spec_l1Cur_netFlow.j2 k2 t101 x5_2 s0_0 t113 t114)=some (r1,r2,r3,r4):=by rw [if_neg (show ¬ (false=true) by decide)] at H;exact H
          clear H;have H:=H1;clear H1;have H':=aM H;clear H;obtain ⟨Ao27,co27,eo27⟩:=Kd.S_slice HO_5.out;subst eo27;go_wp2_with (first|((with_reducible refine Qh (f:=99) rfl ?_);refine goesL_ (some 32) rfl rfl Try.func99 (by kernel_rfl) rfl #[.slice Ao4 t101.length co4,.slice Ao27 x5_2.length co27] rfl (by (try simp only [aD,aE,aF]);first|done|rfl|(simp only [aG,aH];rfl)) ?_;(with_reducible refine (spec_NextWay.calls k2 _ _ t101 _ _ x5_2 t115 t116 false _ ?side1 ?side2 ?side3 ?side4 A17.out).mono ?_);(case side1=>repeat (first|exact (Kd.Qd HO_4.out).2.2|(with_reducible refine Kd.Qe ?_ _)|(with_reducible refine Kd.Qf ?_ _)|(with_reducible refine Kd.C_drew ?_)));(case side2=>exact (Kd.Qd HO_4.out).2.1);(case side3=>repeat (first|exact (Kd.Qd HO_5.out).2.2|(with_reducible refine Kd.Qe ?_ _)|(with_reducible refine Kd.Qf ?_ _)|(with_reducible refine Kd.C_drew ?_)));(case side4=>exact (Kd.Qd HO_5.out).2.1);rintro e w28 ⟨v118,rfl,ho0,hb⟩;refine ⟨_,rfl,?_⟩;have nz_:=aM (Nat.le_trans HZ.out hb.size);have n0_:=aM (Kd.S_elder' (by (with_reducible repeat (first|apply Kd.Qj|apply Kd.Qi|apply Kd.S_drew));exact HO_4.out) (Kd.R_base ho0) hb);have n1_:=aM (Kd.S_elder' (by (with_reducible repeat (first|apply Kd.Qj|apply Kd.Qi|apply Kd.S_drew));exact HO_5.out) (Kd.R_base ho0) hb);have n2_:=aM (Kd.R_lower ho0 (keep_size (w:=w) (g:=g) (row:=none) (by repeat (first|(with_reducible first|exact HK.out|apply KeepBut.set_|apply Qo|apply Qr|apply Qp)|exact HK.out))));have n3_:=aM (IsS117.below (by repeat (first|(with_reducible first|exact HI0.out|apply IsS117.alloc|apply IsS117.drewN|apply IsS117.drew|apply IsS117.set_1|apply IsS117.set_2)|exact HI0.out)) hb);have n4_:=aM (KeepBut.trans (by repeat (first|(with_reducible first|exact HK.out|apply KeepBut.set_|apply Qo|apply Qr|apply Qp)|exact HK.out)) (KeepBut.of_below hb g none) (.inl rfl));have n5_:=aM (Qm (by repeat (first|(with_reducible first|exact HB.out|apply Qb|apply Qa|apply Qc|refine Qg ?_ (IsS117.ge HI0.out))|exact HB.out)) hb);clear HO_4;clear HO_5;clear HI0;clear HK;clear HB;have HO_4:=n0_;have HO_5:=n1_;have HO119:=n2_;have HI0:=n3_;have HK:=n4_;have HB:=n5_;clear n0_ n1_ n2_ n3_ n4_ n5_;clear HZ;have HZ:=nz_;clear nz_;(try clear hb);(try clear hb2);(try clear hk);(try clear hi);(try clear ho0)))
          go_meet
          case rel=>exact ⟨_,(x5_2),H',⟨by have:=HK1.out;have:=HK2.out;first|omega|exact Nat.le_refl _⟩,⟨by (with_reducible repeat (first|apply Kd.Qj|apply Kd.Qi|apply Kd.S_drew));exact Kd.S_mono HO_4.out (fun _ hk=>hk.1)⟩,⟨by (with_reducible repeat (first|apply Kd.Qj|apply Kd.Qi|apply Kd.S_drew));exact Kd.S_mono HO_5.out (fun _ hk=>hk.1)⟩,⟨by repeat (first|(with_reducible first|exact HI0.out|apply IsS117.alloc|apply IsS117.drewN|apply IsS117.drew|apply IsS117.set_1|apply IsS117.set_2)|exact HI0.out)⟩,⟨by repeat (first|(with_reducible first|exact HK.out|apply KeepBut.set_|apply Qo|apply Qr|apply Qp)|exact HK.out)⟩,⟨by repeat (first|(with_reducible first|exact HB.out|apply Qb|apply Qa|apply Qc|refine Qg ?_ (IsS117.ge HI0.out))|exact HB.out)⟩,⟨by first|exact HZ.out|exact Nat.le_trans HZ.out (by simp)⟩⟩
        ·rw [if_neg c16] at H;have c16b0:decide (0<x6_2)=false:=decide_eq_false c16;clear c16
         (first|rw [c16b0]|(simp only [i64_w,i32_w];rw [c16b0])|skip)
         have H':=aM H;clear H;go_wp2
         go_meet
         case rel=>exact ⟨_,(x5_2),H',⟨by have:=HK1.out;have:=HK2.out;first|omega|exact Nat.le_refl _⟩,⟨by (with_reducible repeat (first|apply Kd.Qj|apply Kd.Qi|apply Kd.S_drew));exact HO_4.out⟩,⟨by (with_reducible repeat (first|apply Kd.Qj|apply Kd.Qi|apply Kd.S_drew));exact HO_5.out⟩,⟨by repeat (first|(with_reducible first|exact HI0.out|apply IsS117.alloc|apply IsS117.drewN|apply IsS117.drew|apply IsS117.set_1|apply IsS117.set_2)|exact HI0.out)⟩,⟨by repeat (first|(with_reducible first|exact HK.out|apply KeepBut.set_|apply Qo|apply Qr|apply Qp)|exact HK.out)⟩,⟨by repeat (first|(with_reducible first|exact HB.out|apply Qb|apply Qa|apply Qc|refine Qg ?_ (IsS117.ge HI0.out))|exact HB.out)⟩,⟨by first|exact HZ.out|exact Nat.le_trans HZ.out (by simp)⟩⟩
     case rest=>
      clear HC14;(try clear c1);(try clear p2);(try clear c5);(try clear c5b0);(try clear c6);(try clear c6b0);(try clear c6b1);(try clear p6);(try clear c7);(try clear c7b0);(try clear c7b1);(try clear c8);(try clear c9);(try clear c12);(try clear c16);(try clear c16b0);(try clear c17);(try clear c18);(try clear c19);(try clear p2);(try clear p6);obtain ⟨kq,x5_13,HA,HJ13,HO_4,HO_5,HI0,HK,HB,HZ⟩:=hcut
      cases kq with
      |zero=>exact absurd HA.out (by simp [spec_l1Cur_netFlow.j2])
      |succ kj13=>
       have H:=HA.out;clear HA;simp only [spec_l1Cur_netFlow.j2] at H;by_cases c29:(x5_13.length:Int) > 1
       ·rw [if_pos c29] at H;have c29b0:decide (1<(x5_13.length:Int))=true:=decide_eq_true c29;have c29b1:decide (1<x5_13.length)=true:=decide_eq_true (by omega);clear c29;replace H:=Option.bind_eq_some_iff.mp H;obtain ⟨⟨t125,t126,t127⟩,A300,H⟩:=H;replace H:(if t125=true then (if 0<(x5_13.length:Int) then (if 1<((rd_L2 x5_13 0).length:Int) then ((spec_l1Cur_pick.f s0_0 t126 t127 3).bind fun bt130=>(some (t101,(x5_13.set (0:Int).toNat ((rd_L2 x5_13 0).set (1:Int).toNat (wrap64 ((rd (rd_L2 x5_13 0) 1)+(wrap64 (bt130.1 - 1)))))),bt130.2.1,bt130.2.2))) else (none)) else (none)) else (some (t101,x5_13,t126,t127)))=some (r1,r2,r3,r4):=H;have A30:=aM A300;clear A300;by_cases c31:t125=true
        ·subst c31;have H1:(if 0<(x5_13.length:Int) then (if 1<((rd_L2 x5_13 0).length:Int) then ((spec_l1Cur_pick.f s0_0 t126 t127 3).bind fun bt130=>(some (t101,(x5_13.set (0:Int).toNat ((rd_L2 x5_13 0).set (1:Int).toNat (wrap64 ((rd (rd_L2 x5_13 0) 1)+(wrap64 (bt130.1 - 1)))))),bt130.2.1,bt130.2.2))) else (none)) else (none))=some (r1,r2,r3,r4):=by rw [if_pos rfl] at H;exact H
         clear H;have H:=H1;clear H1;by_cases c32:0<(x5_13.length:Int)
         ·rw [if_pos c32] at H;have c32b0:decide (0<(x5_13.length:Int))=true:=decide_eq_true c32;have c32b1:decide (0<x5_13.length)=true:=decide_eq_true (by omega);clear c32;by_cases c33:1<((rd_L2 x5_13 0).length:Int)
          ·rw [if_pos c33] at H;have c33b0:decide (1<((rd_L2 x5_13 0).length:Int))=true:=decide_eq_true c33;have c33b1:decide (1<(rd_L2 x5_13 0).length)=true:=decide_eq_true (by omega);clear c33;replace H:=Option.bind_eq_some_iff.mp H;obtain ⟨⟨t130,t131,t132⟩,A340,H⟩:=H;replace H:(some (t101,(x5_13.set (0:Int).toNat ((rd_L2 x5_13 0).set (1:Int).toNat (wrap64 ((rd (rd_L2 x5_13 0) 1)+(wrap64 (t130 - 1)))))),t131,t132))=some (r1,r2,r3,r4):=H;have A34:=aM A340;clear A340;obtain ⟨y133,hy133⟩:∃ y_:List Int,y_=((rd_L2 x5_13 0).set (1:Int).toNat (wrap64 ((rd (rd_L2 x5_13 0) 1)+(wrap64 (t130 - 1))))):=⟨_,rfl⟩;replace H:(some (t101,(x5_13.set (0:Int).toNat y133),t131,t132))=some (r1,r2,r3,r4):=by first|(rw [hy133];with_reducible exact H)|(have H2_:=(Option.bind_some _ _).symm.trans H;rw [hy133];with_reducible exact H2_)|(have H2_:=(Option.bind_some _ _).symm.trans H;with_reducible exact H2_)|with_reducible exact H|(rw [hy133];exact H)|exact H
           have Ny133:=aM hy133;clear hy133;obtain ⟨y135,hy135⟩:∃ y_:List (List Int),y_=(x5_13.set (0:Int).toNat y133):=⟨_,rfl⟩;replace H:(some (t101,y135,t131,t132))=some (r1,r2,r3,r4):=by first|(rw [hy135];with_reducible exact H)|(have H2_:=(Option.bind_some _ _).symm.trans H;rw [hy135];with_reducible exact H2_)|(have H2_:=(Option.bind_some _ _).symm.trans H;with_reducible exact H2_)|with_reducible exact H|(rw [hy135];exact H)|exact H
           have Ny135:=aM hy135;clear hy135;simp only [Option.some.injEq,Prod.mk.injEq] at H;obtain ⟨rfl,rfl,rfl,rfl⟩:=H;obtain ⟨Ao36,co36,eo36⟩:=Kd.S_slice HO_5.out;subst eo36
           try go_wp2_with (first|(go_at_call 120;(with_reducible refine (spec_l1Cur_one.calls g s0_0 t113 t114 8 true t126 t127 w0 _ ?side1 ?side2 A30.out).mono ?_);(case side1=>repeat (first|(with_reducible first|exact HI0.out|apply IsS117.alloc|apply IsS117.drewN|apply IsS117.drew|apply IsS117.set_1|apply IsS117.set_2)|exact HI0.out));(case side2=>repeat (first|(with_reducible first|exact HB.out|apply Qb|apply Qa|apply Qc|refine Qg ?_ (IsS117.ge HI0.out))|exact HB.out));rintro e w37 ⟨rfl,hi,hb,hk⟩;have nz_:=aM (Nat.le_trans HZ.out hk.1);have n0_:=aM (Kd.S_mono (Kd.S_keep (IsS117.apartS (show IsS117 w0 _ g s0_0 t113 t114 from by repeat (first|(with_reducible first|exact HI0.out|apply IsS117.alloc|apply IsS117.drewN|apply IsS117.drew|apply IsS117.set_1|apply IsS117.set_2)|exact HI0.out)) (by (with_reducible repeat (first|apply Kd.Qj|apply Kd.Qi|apply Kd.S_drew));exact HO_4.out) (by decide)) hk (fun _ h=>h.2)) (fun _ h=>h.1));have n1_:=aM (Kd.S_mono (Kd.S_keep (IsS117.apartS (show IsS117 w0 _ g s0_0 t113 t114 from by repeat (first|(with_reducible first|exact HI0.out|apply IsS117.alloc|apply IsS117.drewN|apply IsS117.drew|apply IsS117.set_1|apply IsS117.set_2)|exact HI0.out)) (by (with_reducible repeat (first|apply Kd.Qj|apply Kd.Qi|apply Kd.S_drew));exact HO_5.out) (by decide)) hk (fun _ h=>h.2)) (fun _ h=>h.1));have n2_:=aM (KeepBut.trans (by repeat (first|(with_reducible first|exact HK.out|apply KeepBut.set_|apply Qo|apply Qr|apply Qp)|exact HK.out)) hk (.inl rfl));have n3_:=aM (hb);have n4_:=aM (hi);clear HO_4;clear HO_5;clear HK;clear HB;clear HI0;have HO_4:=n0_;have HO_5:=n1_;have HK:=n2_;have HB:=n3_;have HI0:=n4_;clear n0_ n1_ n2_ n3_ n4_;clear HZ;have HZ:=nz_;clear nz_;(try clear hb);(try clear hb2);(try clear hk);(try clear hi)))
           have n0_:=aM (Kd.S_drew HO_4.out);have n1_:=aM (Kd.S_drew HO_5.out);have n2_:=aM (IsS117.drew HI0.out);have n3_:=aM (Qr HK.out);have n4_:=aM (Qc HB.out);clear HO_4;clear HO_5;clear HI0;clear HK;clear HB;have HO_4:=n0_;have HO_5:=n1_;have HI0:=n2_;have HK:=n3_;have HB:=n4_;clear n0_ n1_ n2_ n3_ n4_;have p128:0≤(0:Int):=(by omega);have q128:0<(x5_13.length:Int):=of_decide_eq_true (by first|(with_reducible assumption)|assumption);obtain ⟨ad128,A128_0,c128_0,e128,hx128_0,hl128_0,hi128_0⟩:=at_L2 (Kd.Qd HO_5.out).2.2 0 p128 q128
           cases e128
           obtain ⟨ce128,hce128,hMe128,hcc128⟩:=Kd.S_get HO_5.out [] 0 p128 (by first|exact q128|exact of_decide_eq_true (by first|(with_reducible assumption)|assumption)|(have e_:=(Kd.Qd HO_5.out).1;omega));obtain ⟨ve128_0,rfl,ge128_0⟩:=hMe128;have hv128_0:=hcc128 0 _ rfl;rw [Nat.add_zero,show ((Kd.slice 3 (Kd.int .i64))).sz=1 from rfl,Nat.mul_one] at hv128_0;replace hv128_0:=Option.some.inj (hv128_0.symm.trans hx128_0);rw [hv128_0] at ge128_0;have HL128_0:=aM (show Kd.R (Kd.int .i64) 3 _ _ _ _ (rd_L2 x5_13 0) from ge128_0);clear hv128_0 ge128_0;have HX128_0:=aM hx128_0;clear hcc128 hce128;have qi128:(0<x5_13.length)=True:=eq_true (by omega);(try rw [show ((0:Int)).toNat=0 from rfl] at hx128_0);(try rw [Addr.add_zero'] at hx128_0);have HR128_0:=aM hi128_0;have HC128_0:=aM hl128_0;clear hi128_0 hl128_0;replace p128:=eq_true p128;replace q128:=eq_true q128;have p129:0≤(1:Int):=(by omega);have q129:1<((rd_L2 x5_13 0).length:Int):=of_decide_eq_true (by first|(with_reducible assumption)|assumption);obtain ⟨ad129,e129,hx129_0⟩:=Kd.at_int (by repeat (first|(with_reducible exact HR128_0.out)|(with_reducible refine Kd.Qe ?_ _)|(with_reducible refine Kd.Qf ?_ _)|(with_reducible refine Kd.C_drew ?_)|exact HR128_0.out)) 1 p129 q129
           cases e129
           (try simp only [show (1:Int).toNat=1 from rfl,Nat.reduceMul,Nat.reduceEqDiff,Go.Addr.add,↓reduceIte] at hx129_0);have qi129:(1<(rd_L2 x5_13 0).length)=True:=eq_true (by omega);(try rw [show ((1:Int)).toNat=1 from rfl] at hx129_0);replace p129:=eq_true p129;replace q129:=eq_true q129;refine start_ (n:=11) (S:=fun w'=>w'.cell? ad128=some (.slice (some ad129) (rd_L2 x5_13 0).length c128_0)∧w'.cell? ⟨ad129.block,ad129.off+1,none⟩=some (.int .i64 (rd (rd_L2 x5_13 0) 1))) (ds:=[10]) #[false,false,false,false,false,false,false,false,false,false,false] (by kernel_rfl) rfl rfl ⟨hx128_0,hx129_0⟩ (fun hHeld=>?_);refine with_tabW spec_l1Cur_netFlow.tab14 spec_l1Cur_netFlow.bits14 (fun HT_ HW_=>?_);replace HZ:Aside0 (Z_≤w37.drew.heap.size):=⟨HZ.out⟩
           generalize w37.drew=w38 at HZ HO_4 HO_5 HI0 HK HB HL128_0 HR128_0 HX128_0 hx128_0 hx129_0 hHeld ⊢
           refine pure_ (i:=0) (N:=some 57) (v:=?_) (a':=?_) #[true,false,false,false,false,false,false,false,false,false,false] rfl rfl (any_of HT_.out (by kernel_rfl)) (fun _ _ _ h=>h) (Or.inl ⟨by rfl,?_⟩) ?_ ?_
           rotate_left
           ·intro w'
            go_simp
            with_reducible rfl
           rotate_left
           ·simp only [Act.put,aA,aB,aC,i64_w,i32_w]
            rfl
           refine pure_ (i:=1) (N:=some 58) (v:=?_) (a':=?_) #[true,true,false,false,false,false,false,false,false,false,false] rfl rfl (any_of HT_.out (by kernel_rfl)) (fun _ _ _ h=>h) (Or.inl ⟨by rfl,?_⟩) ?_ ?_
           rotate_left
           ·intro w'
            go_simp
            with_reducible rfl
           rotate_left
           ·simp only [Act.put,aA,aB,aC,i64_w,i32_w]
            rfl
           refine pure_ (i:=5) (N:=some 62) (v:=?_) (a':=?_) #[true,true,false,false,false,true,false,false,false,false,false] rfl rfl (any_of HT_.out (by kernel_rfl)) (fun _ _ _ h=>h) (Or.inl ⟨by rfl,?_⟩) ?_ ?_
           rotate_left
           ·intro w'
            go_simp
            with_reducible rfl
           rotate_left
           ·simp only [Act.put,aA,aB,aC,i64_w,i32_w]
            rfl
           refine take_ (i:=2) (N:=some 59) (v:=?_) (a':=?_) #[true,true,true,false,false,true,false,false,false,false,false] rfl rfl (take_ofW HT_.out HW_.out (by kernel_rfl)) (fun _ _ _ h=>h) (Or.inl ⟨by rfl,?_⟩) hHeld ?_ ?_
           rotate_left
           ·rintro w' ⟨s0,s1⟩
            go_simp
            with_reducible rfl
           rotate_left
           ·simp only [Act.put,aA,aB,aC,i64_w,i32_w]
            rfl
           refine pure_ (i:=3) (N:=some 60) (v:=?_) (a':=?_) #[true,true,true,true,false,true,false,false,false,false,false] rfl rfl (any_of HT_.out (by kernel_rfl)) (fun _ _ _ h=>h) (Or.inl ⟨by rfl,?_⟩) ?_ ?_
           rotate_left
           ·intro w'
            go_simp
            with_reducible rfl
           rotate_left
           ·simp only [Act.put,aA,aB,aC,i64_w,i32_w]
            rfl
           refine take_ (i:=4) (N:=some 61) (v:=?_) (a':=?_) #[true,true,true,true,true,true,false,false,false,false,false] rfl rfl (take_ofW HT_.out HW_.out (by kernel_rfl)) (fun _ _ _ h=>h) (Or.inl ⟨by rfl,?_⟩) hHeld ?_ ?_
           rotate_left
           ·rintro w' ⟨s0,s1⟩
            go_simp
            with_reducible rfl
           rotate_left
           ·simp only [Act.put,aA,aB,aC,i64_w,i32_w]
            rfl
           refine one_ (i:=6) (N:=some 63) #[true,true,true,true,true,true,true,false,false,false,false] rfl rfl (one_of HT_.out (by kernel_rfl)) (by decide) (fun K hK=>?_)
           first|(refine goes_ Try.func122 (by kernel_rfl) rfl #[.pointer (some ⟨g,0,none⟩),.int .i64 3] (by rfl) rfl rfl (by (try simp only [aD,aE,aF]);first|done|rfl|(simp only [aG,aH];rfl)) ?_)|(refine call_ 122 #[.pointer (some ⟨g,0,none⟩),.int .i64 3] (by rfl) rfl (by unfold execOp;simp [resolve,Deferred.ofValue,invoke,Act.eval,enters_ Try.func122 (by kernel_rfl) rfl]) ?_)
           with_reducible refine (spec_l1Cur_pick.calls g s0_0 t126 t127 3 t130 t131 t132 w0 _ ?side1 ?side2 A34.out).mono ?_
           (case side1=>repeat (first|(with_reducible first|exact HI0.out|apply IsS117.alloc|apply IsS117.drewN|apply IsS117.drew|apply IsS117.set_1|apply IsS117.set_2)|exact HI0.out))
           (case side2=>repeat (first|(with_reducible first|exact HB.out|apply Qb|apply Qa|apply Qc|refine Qg ?_ (IsS117.ge HI0.out))|exact HB.out))
           rintro e w39 ⟨rfl,hi,hb,hk⟩
           have nz_:=aM (Nat.le_trans HZ.out hk.1);have HS0_:=keep_cell hk (hHeld.1) (by first|(dsimp only;exact Kd.own_blk (IsS117.own_neS HI0.out HO_5.out (by decide)))|(rw [add_block];exact Kd.own_blk (IsS117.own_neS HI0.out HO_5.out (by decide)))|(show (Addr.add _ _).block≠_;rw [add_block];exact Kd.own_blk (IsS117.own_neS HI0.out HO_5.out (by decide)))|exact Kd.own_blk (IsS117.own_neS HI0.out HO_5.out (by decide)));have HS1_:=keep_cell hk (hHeld.2) (by first|(dsimp only;exact Kd.own_blk (IsS117.own_ne HI0.out HL128_0.out (by decide)))|(rw [add_block];exact Kd.own_blk (IsS117.own_ne HI0.out HL128_0.out (by decide)))|(show (Addr.add _ _).block≠_;rw [add_block];exact Kd.own_blk (IsS117.own_ne HI0.out HL128_0.out (by decide)))|exact Kd.own_blk (IsS117.own_ne HI0.out HL128_0.out (by decide)));refine ⟨_,rfl,?_⟩;have n0_:=aM (Kd.S_mono (Kd.S_keep (IsS117.apartS (show IsS117 w0 _ g s0_0 t126 t127 from by repeat (first|(with_reducible first|exact HI0.out|apply IsS117.alloc|apply IsS117.drewN|apply IsS117.drew|apply IsS117.set_1|apply IsS117.set_2)|exact HI0.out)) (by (with_reducible repeat (first|apply Kd.Qj|apply Kd.Qi|apply Kd.S_drew));exact HO_4.out) (by decide)) hk (fun _ h=>h.2)) (fun _ h=>h.1));have n1_:=aM (Kd.S_mono (Kd.S_keep (IsS117.apartS (show IsS117 w0 _ g s0_0 t126 t127 from by repeat (first|(with_reducible first|exact HI0.out|apply IsS117.alloc|apply IsS117.drewN|apply IsS117.drew|apply IsS117.set_1|apply IsS117.set_2)|exact HI0.out)) (by (with_reducible repeat (first|apply Kd.Qj|apply Kd.Qi|apply Kd.S_drew));exact HO_5.out) (by decide)) hk (fun _ h=>h.2)) (fun _ h=>h.1));have n2_:=aM (Kd.R_mono (Kd.R_keep (IsS117.apart (show IsS117 w0 _ g s0_0 t126 t127 from by repeat (first|(with_reducible first|exact HI0.out|apply IsS117.alloc|apply IsS117.drewN|apply IsS117.drew|apply IsS117.set_1|apply IsS117.set_2)|exact HI0.out)) (by (with_reducible repeat (first|apply Kd.Qk|apply Kd.Ql|apply Kd.R_drew));exact HL128_0.out) (by decide)) hk (fun _ h=>h.2)) (fun _ h=>h.1));have n3_:=aM (keep_cell hk HX128_0.out (by first|(rw [add_block];exact Kd.own_blk (IsS117.own_neS HI0.out HO_5.out (by decide)))|(show (Addr.add _ _).block≠_;rw [add_block];exact Kd.own_blk (IsS117.own_neS HI0.out HO_5.out (by decide)))|exact Kd.own_blk (IsS117.own_neS HI0.out HO_5.out (by decide))|(dsimp only;exact Kd.own_blk (IsS117.own_neS HI0.out HO_5.out (by decide)))));have n4_:=aM (KeepBut.trans (by repeat (first|(with_reducible first|exact HK.out|apply KeepBut.set_|apply Qo|apply Qr|apply Qp)|exact HK.out)) hk (.inl rfl));have n5_:=aM (hb);have n6_:=aM (hi);clear HO_4;clear HO_5;clear HL128_0;clear HX128_0;clear HK;clear HB;clear HI0;have HO_4:=n0_;have HO_5:=n1_;have HL128_0:=n2_;have HX128_0:=n3_;have HK:=n4_;have HB:=n5_;have HI0:=n6_;clear n0_ n1_ n2_ n3_ n4_ n5_ n6_;clear HZ;have HZ:=nz_;clear nz_;(try clear hb);(try clear hb2);(try clear hk);(try clear hi);have p35:0≤(1:Int):=(by omega);have q35:(1:Int)<(((rd_L2 x5_13 0).length:Int):Int):=of_decide_eq_true (by first|(with_reducible assumption)|assumption);have qi35:(1<(rd_L2 x5_13 0).length)=True:=eq_true (by omega);obtain ⟨go35,co35,eo35,gb35,gl35,cl35,HG35⟩:=Kd.R_form HL128_0.out (by omega)
           (first|cases eo35|(injection eo35 with ea_ en_ ec_;(first|subst ea_|(injection ea_ with ea_;subst ea_));subst ec_;clear en_))
           have GB35:=aM gb35;have GG35:=aM HG35;clear gb35 gl35 HG35
           (first|simp only [add_plain] at hx129_0|skip)
           obtain ⟨hx35_0,hf35_0⟩:=Kd.R_celln 0 HL128_0.out (1:Int) p35 q35;(try rw [show ((1:Int)).toNat=1 from rfl] at hx35_0);(try simp only [Nat.reduceMul,Nat.zero_mul,Nat.zero_add,Nat.reduceAdd] at hx35_0);(try rw [show ((1:Int)).toNat=1 from rfl] at hf35_0);(try simp only [Nat.reduceMul,Nat.zero_mul,Nat.zero_add,Nat.reduceAdd] at hf35_0);replace p35:=eq_true p35;replace q35:=eq_true q35;have hq40:(0:Int)<(x5_13.length:Int):=(by have h_:(0:Int)<((x5_13.length:Int):Int):=of_decide_eq_true (by first|(with_reducible assumption)|assumption);first|exact h_|(have e_:=(Kd.Qd HO_5.out).1;omega)|simpa only [List.length_set,List.length_set] using h_);obtain ⟨oki40,ce40,hcl40,hM40,hcc40,hok40,hbk40⟩:=Kd.S_borrow HO_5.out [] (0:Int) (by omega) hq40;obtain ⟨ve40_0,rfl,ge40_0⟩:=hM40;have hv40:=hcc40 0 _ rfl;rw [Nat.add_zero,show ((Kd.slice 3 (Kd.int .i64))).sz=1 from rfl,Nat.mul_one] at hv40;replace hv40:=Option.some.inj (hv40.symm.trans HX128_0.out);subst hv40;clear hcc40 hcl40;replace ge40_0:=(show Kd.R (Kd.int .i64) 3 _ _ _ _ (rd_L2 x5_13 0) from ge40_0);have HP40:=Kd.R_putg ge40_0 (1:Int) (wrap64 ((rd (rd_L2 x5_13 0) 1)+(wrap64 (t130 - 1))));have HN0_go35:=aM (show g≠go35 from by have h_:=IsS117.own_ne HI0.out HL128_0.out (by decide);intro e_;exact h_ (by rw [e_];rfl));rw [←Ny133.out] at HP40;have HS40:=hbk40 HP40.2 (fun k_ e_=>by injection e_ with e_;subst e_;exact ge40_0.1 _ rfl) (x':=y133) (Kd.M_row HP40.1);rw [←Ny135.out] at HS40;have HQ40:=aM HS40;clear HP40 HS40 hbk40 hok40;refine hK.out _ _ ⟨HS0_,HS1_⟩ (fun hHeld=>?_);clear hK K;refine norm_ (a':=?_) ?_ ?_
           rotate_left
           ·show Act.put _ (some 63) _=_
            simp only [Act.put,aA,aB,aC,i64_w,i32_w]
            rfl
           refine pure_ (i:=7) (N:=some 64) (v:=?_) (a':=?_) #[true,true,true,true,true,true,true,true,false,false,false] rfl rfl (any_of HT_.out (by kernel_rfl)) (fun _ _ _ h=>h) (Or.inl ⟨by rfl,?_⟩) ?_ ?_
           rotate_left
           ·intro w'
            go_simp
            with_reducible rfl
           rotate_left
           ·simp only [Act.put,aA,aB,aC,i64_w,i32_w]
            rfl
           refine pure_ (i:=8) (N:=some 65) (v:=?_) (a':=?_) #[true,true,true,true,true,true,true,true,true,false,false] rfl rfl (any_of HT_.out (by kernel_rfl)) (fun _ _ _ h=>h) (Or.inl ⟨by rfl,?_⟩) ?_ ?_
           rotate_left
           ·intro w'
            go_simp
            with_reducible rfl
           rotate_left
           ·simp only [Act.put,aA,aB,aC,i64_w,i32_w]
            rfl
           refine pure_ (i:=9) (N:=some 66) (v:=?_) (a':=?_) #[true,true,true,true,true,true,true,true,true,true,false] rfl rfl (any_of HT_.out (by kernel_rfl)) (fun _ _ _ h=>h) (Or.inl ⟨by rfl,?_⟩) ?_ ?_
           rotate_left
           ·intro w'
            go_simp
            with_reducible rfl
           rotate_left
           ·simp only [Act.put,aA,aB,aC,i64_w,i32_w]
            rfl
           refine last_ (i:=10) (N:=none) #[true,true,true,true,true,true,true,true,true,true,true] rfl rfl (one_of HT_.out (by kernel_rfl)) (by decide) (fun K hK=>?_);refine skip_ (w1:=?_) (by rfl) rfl ?_ ?_
           rotate_left
           ·go_simp
            rfl
           refine hK.out _ _ ?_;clear hK K;refine done_ (done_of HT_.out (by kernel_rfl)) ?_
           try go_wp2
           go_ret2
           exact ⟨_,_,by first|rfl|(simp [errW_none,errW_some] <;> rfl)|(simp [*,errW_none,errW_some] <;> rfl),by (with_reducible repeat (first|apply Kd.Qj|apply Kd.Qi|apply Kd.S_drew));exact Kd.S_mono (Kd.S_far (p:=⟨go35,1,none⟩) (Kd.S_mono HO_4.out (fun k_ hk=>(⟨hk,fun e_=>by have h1_:=hk.1;have h2_:=HL128_0.out.1 go35 rfl;rw [e_] at h1_;exact Nat.lt_irrefl _ (Nat.lt_of_lt_of_le h1_ (by first|exact h2_.1|exact h2_.1.1|exact h2_.1.1.1))⟩:_∧k_≠go35))) (fun _ hk=>hk.2) (.int .i64 (wrap64 ((rd (rd_L2 x5_13 0) 1)+(wrap64 (t130 - 1)))))) (fun _ hk=>hk.1.2),by (with_reducible repeat (first|apply Kd.Qj|apply Kd.Qi|apply Kd.S_drew));exact Kd.S_mono HQ40.out (fun _ hk=>hk.2),by repeat (first|(with_reducible first|exact HI0.out|apply IsS117.alloc|apply IsS117.drewN|apply IsS117.drew|apply IsS117.set_1|apply IsS117.set_2|refine IsS117.far ?_ HN0_go35.out _)|exact HI0.out),by repeat (first|(with_reducible first|exact HB.out|apply Qb|apply Qa|apply Qc|refine Qg ?_ (Nat.le_trans HL.out GB35.out)|refine Qg ?_ (IsS117.ge HI0.out))|exact HB.out),by repeat (first|(with_reducible first|exact HK.out|apply KeepBut.set_|apply Qo|apply Qr|apply Qp|refine keep_far ?_ GB35.out _)|exact HK.out)⟩
          ·rw [if_neg c33] at H;exact absurd H (by simp)
         ·rw [if_neg c32] at H;exact absurd H (by simp)
        ·replace c31:=Bool.eq_false_iff.mpr c31;subst c31;have H1:(some (t101,x5_13,t126,t127))=some (r1,r2,r3,r4):=by rw [if_neg (show ¬ (false=true) by decide)] at H;exact H
         clear H;have H:=H1;clear H1;simp only [Option.some.injEq,Prod.mk.injEq] at H;obtain ⟨rfl,rfl,rfl,rfl⟩:=H;obtain ⟨Ao42,co42,eo42⟩:=Kd.S_slice HO_5.out;subst eo42;go_wp2_with (first|(go_at_call 120;(with_reducible refine (spec_l1Cur_one.calls g s0_0 t113 t114 8 false t126 t127 w0 _ ?side1 ?side2 A30.out).mono ?_);(case side1=>repeat (first|(with_reducible first|exact HI0.out|apply IsS117.alloc|apply IsS117.drewN|apply IsS117.drew|apply IsS117.set_1|apply IsS117.set_2)|exact HI0.out));(case side2=>repeat (first|(with_reducible first|exact HB.out|apply Qb|apply Qa|apply Qc|refine Qg ?_ (IsS117.ge HI0.out))|exact HB.out));rintro e w43 ⟨rfl,hi,hb,hk⟩;have nz_:=aM (Nat.le_trans HZ.out hk.1);have n0_:=aM (Kd.S_mono (Kd.S_keep (IsS117.apartS (show IsS117 w0 _ g s0_0 t113 t114 from by repeat (first|(with_reducible first|exact HI0.out|apply IsS117.alloc|apply IsS117.drewN|apply IsS117.drew|apply IsS117.set_1|apply IsS117.set_2)|exact HI0.out)) (by (with_reducible repeat (first|apply Kd.Qj|apply Kd.Qi|apply Kd.S_drew));exact HO_4.out) (by decide)) hk (fun _ h=>h.2)) (fun _ h=>h.1));have n1_:=aM (Kd.S_mono (Kd.S_keep (IsS117.apartS (show IsS117 w0 _ g s0_0 t113 t114 from by repeat (first|(with_reducible first|exact HI0.out|apply IsS117.alloc|apply IsS117.drewN|apply IsS117.drew|apply IsS117.set_1|apply IsS117.set_2)|exact HI0.out)) (by (with_reducible repeat (first|apply Kd.Qj|apply Kd.Qi|apply Kd.S_drew));exact HO_5.out) (by decide)) hk (fun _ h=>h.2)) (fun _ h=>h.1));have n2_:=aM (KeepBut.trans (by repeat (first|(with_reducible first|exact HK.out|apply KeepBut.set_|apply Qo|apply Qr|apply Qp)|exact HK.out)) hk (.inl rfl));have n3_:=aM (hb);have n4_:=aM (hi);clear HO_4;clear HO_5;clear HK;clear HB;clear HI0;have HO_4:=n0_;have HO_5:=n1_;have HK:=n2_;have HB:=n3_;have HI0:=n4_;clear n0_ n1_ n2_ n3_ n4_;clear HZ;have HZ:=nz_;clear nz_;(try clear hb);(try clear hb2);(try clear hk);(try clear hi)))
         go_ret2
         exact ⟨_,_,by first|rfl|(simp [errW_none,errW_some] <;> rfl)|(simp [*,errW_none,errW_some] <;> rfl),by (with_reducible repeat (first|apply Kd.Qj|apply Kd.Qi|apply Kd.S_drew));exact Kd.S_mono HO_4.out (fun _ hk=>hk.2),by (with_reducible repeat (first|apply Kd.Qj|apply Kd.Qi|apply Kd.S_drew));exact Kd.S_mono HO_5.out (fun _ hk=>hk.2),by repeat (first|(with_reducible first|exact HI0.out|apply IsS117.alloc|apply IsS117.drewN|apply IsS117.drew|apply IsS117.set_1|apply IsS117.set_2)|exact HI0.out),by repeat (first|(with_reducible first|exact HB.out|apply Qb|apply Qa|apply Qc|refine Qg ?_ (IsS117.ge HI0.out))|exact HB.out),by repeat (first|(with_reducible first|exact HK.out|apply KeepBut.set_|apply Qo|apply Qr|apply Qp)|exact HK.out)⟩
       ·rw [if_neg c29] at H;have c29b0:decide (1<(x5_13.length:Int))=false:=decide_eq_false c29;have c29b1:decide (1<x5_13.length)=false:=decide_eq_false (by omega);clear c29;simp only [Option.some.injEq,Prod.mk.injEq] at H;obtain ⟨rfl,rfl,rfl,rfl⟩:=H;obtain ⟨Ao44,co44,eo44⟩:=Kd.S_slice HO_5.out;subst eo44;go_wp2
        go_ret2
        exact ⟨_,_,by first|rfl|(simp [errW_none,errW_some] <;> rfl)|(simp [*,errW_none,errW_some] <;> rfl),by (with_reducible repeat (first|apply Kd.Qj|apply Kd.Qi|apply Kd.S_drew));exact Kd.S_mono HO_4.out (fun _ hk=>hk.2),by (with_reducible repeat (first|apply Kd.Qj|apply Kd.Qi|apply Kd.S_drew));exact Kd.S_mono HO_5.out (fun _ hk=>hk.2),by repeat (first|(with_reducible first|exact HI0.out|apply IsS117.alloc|apply IsS117.drewN|apply IsS117.drew|apply IsS117.set_1|apply IsS117.set_2)|exact HI0.out),by repeat (first|(with_reducible first|exact HB.out|apply Qb|apply Qa|apply Qc|refine Qg ?_ (IsS117.ge HI0.out))|exact HB.out),by repeat (first|(with_reducible first|exact HK.out|apply KeepBut.set_|apply Qo|apply Qr|apply Qp)|exact HK.out)⟩

def spec_DrawFlowValue.f (k:Nat) (l0:List Int):Option ((List (List Int))):=(spec_l1Cur_netFlow.f k l0 0 0).bind fun bt102=>(some bt102.2.1)
set_option maxHeartbeats 8000000 in
set_option maxRecDepth 100000 in
theorem spec_DrawFlowValue.calls (k:Nat) (A0:Option Addr) (c0:Nat) (l0:List Int) (r:List (List Int)) (w:World) (hr0:Kd.C (Kd.int .u8) w A0 l0.length l0) (hc0:l0.length≤c0) (h:spec_DrawFlowValue.f k l0=some r) :
    Calls Try.prog 106 #[.slice A0 l0.length c0] w fun e w'=>∃ v0_:Value,e= .returned (v0_)∧Kd.S (Kd.slice 3 (Kd.int .i64)) 23 w' w.heap.size (fun _=>True) v0_ r∧Below w.heap.size w w':=by
  have hu117:=Try.underlying117;have HR0:=aM hr0;have HC0:=aM hc0;clear hr0 hc0;have HB:=aM (Below.refl w.heap.size w);have H:((spec_l1Cur_netFlow.f k l0 0 0).bind fun bt102=>(some bt102.2.1))=some r:=h;clear h;replace H:=Option.bind_eq_some_iff.mp H;obtain ⟨⟨t102,t105,t108,t109⟩,A20,H⟩:=H;replace H:(some t105)=some r:=H;have A2:=aM A20;clear A20;obtain rfl:=Option.some.inj H;go_enter Try.func106,Try.ntmps106;go_wp2_with (first|((with_reducible refine gate_dst (N:=8) rfl ?_);refine box_event ?hg (N:=8) ?hd (cs:=#[.slice A0 l0.length c0,.int .i64 0,.int .u64 0]) (t:=117) ?hr ?_;(case hd=>rfl);(case hg=>rfl);(case hr=>first|(go_simp;done)|(go_simp;rfl));intro gb101 hg w3 hbox hb;have n0_:=aM (Qm (by repeat (first|(with_reducible first|exact HB.out|apply Qb|apply Qa|apply Qc)|exact HB.out)) hb);have n1_:=aM ((show IsS117 w w3 gb101 l0 0 0 from ⟨A0,c0,hbox,(by rw [hg];exact (Qn (by repeat (first|(with_reducible first|exact HB.out|apply Qb|apply Qa|apply Qc)|exact HB.out)))),HR0.out⟩));have n2_:=aM ((by rw [hg];exact (Qn (by repeat (first|(with_reducible first|exact HB.out|apply Qb|apply Qa|apply Qc)|exact HB.out))):w.heap.size≤gb101));have n3_:=aM ((by rw [hg];exact (Qn (by repeat (first|(with_reducible first|exact HB.out|apply Qb|apply Qa|apply Qc)|exact HB.out))):w.heap.size≤gb101));clear HB;have HB:=n0_;have HI101:=n1_;have GW101:=n2_;have GE101:=n3_;clear n0_ n1_ n2_ n3_;clear hb hbox hg)|((with_reducible refine Qh (f:=177) rfl ?_);refine goesL_ (some 11) rfl rfl Try.func177 (by kernel_rfl) rfl #[.pointer (some ⟨gb101,0,none⟩)] rfl (by (try simp only [aD,aE,aF]);first|done|rfl|(simp only [aG,aH];rfl)) ?_;(with_reducible refine (spec_l1Cur_netFlow.calls k gb101 l0 0 0 t102 t105 t108 t109 w _ ?side1 ?side2 A2.out).mono ?_);(case side1=>repeat (first|(with_reducible first|exact HI101.out|apply IsS117.alloc|apply IsS117.drewN|apply IsS117.drew|apply IsS117.set_1|apply IsS117.set_2)|exact HI101.out));(case side2=>repeat (first|(with_reducible first|exact HB.out|apply Qb|apply Qa|apply Qc|refine Qg ?_ (IsS117.ge HI101.out))|exact HB.out));rintro e w4 ⟨v103,v106,rfl,ho0,ho1,hi,hb,hk⟩;refine ⟨_,rfl,?_⟩;have n0_:=aM (Kd.S_lower ho0 (Qn (by repeat (first|(with_reducible first|exact HB.out|apply Qb|apply Qa|apply Qc|refine Qg ?_ (IsS117.ge HI101.out))|exact HB.out))));have n1_:=aM (Kd.S_lower ho1 (Qn (by repeat (first|(with_reducible first|exact HB.out|apply Qb|apply Qa|apply Qc|refine Qg ?_ (IsS117.ge HI101.out))|exact HB.out))));have n2_:=aM (hb);have n3_:=aM (hi);clear HB;clear HI101;have HO104:=n0_;have HO107:=n1_;have HB:=n2_;have HI101:=n3_;clear n0_ n1_ n2_ n3_;(try clear hb);(try clear hb2);(try clear hk);(try clear hi);(try clear ho0);(try clear ho1)))
  go_ret
  exact ⟨_,by first|rfl|(simp [errW_none,errW_some] <;> rfl)|(simp [*,errW_none,errW_some] <;> rfl),by (with_reducible repeat (first|apply Kd.Qj|apply Kd.Qi|apply Kd.S_drew));exact Kd.S_mono HO107.out (fun _ hk=>trivial),by repeat (first|(with_reducible first|exact HB.out|apply Qb|apply Qa|apply Qc|refine Qg ?_ (IsS117.ge HI101.out))|exact HB.out)⟩

def spec_l13Value.l0:Nat→List (List Int)→Int→Int→Int→Option (Int)
  |0,_,_,_,_=>none
  |k+1,x0,x3,x6,x7=>if x7<x6 then (if 0<(x0.length:Int) then (if 0≤x7 then (if x7<((rd_L2 x0 0).length:Int) then (if x7<(x0.length:Int) then (if 0<((rd_L2 x0 x7).length:Int) then (spec_l13Value.l0 k x0 (wrap64 (x3+(wrap64 ((rd (rd_L2 x0 0) x7) - (rd (rd_L2 x0 x7) 0))))) x6 (wrap64 (x7+1))) else (none)) else (none)) else (none)) else (none)) else (none)) else (some x3)
def spec_l13Value.f (k:Nat) (l0:List (List Int)):Option (Int):=spec_l13Value.l0 k l0 0 (l0.length:Int) 0
set_option maxHeartbeats 8000000 in
set_option maxRecDepth 100000 in
theorem spec_l13Value.calls (k:Nat) (A0:Option Addr) (c0:Nat) (l0:List (List Int)) (r:Int) (w:World) (hr0:Kd.C (Kd.slice 3 (Kd.int .i64)) w A0 l0.length l0) (hc0:l0.length≤c0) (h:spec_l13Value.f k l0=some r) :
    Calls Try.prog 185 #[.slice A0 l0.length c0] w fun e w'=>e= .returned (.int .i64 r)∧Drawn0 w w':=by
  have HR0:=aM hr0;have HC0:=aM hc0;clear hr0 hc0;have H:(spec_l13Value.l0 k l0 0 (l0.length:Int) 0)=some r:=h;clear h;have H':=aM H;clear H;go_enter Try.func185,Try.ntmps185;go_wp2
  repeat (go_quiet (fail);try go_wp2)
  go_loopg [3,7] k (fun kq v3 v7 w'=>∃ (x3_1:Int) (x7_1:Int),v3= .int .i64 x3_1∧v7= .int .i64 x7_1∧Aside0 (spec_l13Value.l0 kq l0 x3_1 (l0.length:Int) x7_1=some r)∧Aside0 (kq≤k)∧Drawn0 w w')
  case atStart=>exact ⟨(0),(0),(by first|rfl|(simp;done)|(simp [*];done)),(by first|rfl|(simp;done)|(simp [*];done)),H',⟨Nat.le_refl _⟩,by repeat (first|exact Drawn0.refl _|apply Drawn0.step)⟩
  case round=>
   clear H';(try clear c1);obtain ⟨x3_1,x7_1,rfl,rfl,HA,HK1,⟨m1,rfl⟩⟩:=hrel
   cases gk with
   |zero=>exact absurd HA.out (by simp [spec_l13Value.l0])
   |succ k1=>
    have H:=HA.out;clear HA;simp only [spec_l13Value.l0] at H;by_cases c2:x7_1<(l0.length:Int)
    ·rw [if_pos c2] at H;have c2b0:decide (x7_1<(l0.length:Int))=true:=decide_eq_true c2;clear c2;by_cases c3:0<(l0.length:Int)
     ·rw [if_pos c3] at H;have c3b0:decide (0<(l0.length:Int))=true:=decide_eq_true c3;have c3b1:decide (0<l0.length)=true:=decide_eq_true (by omega);clear c3;by_cases c4:0≤x7_1
      ·rw [if_pos c4] at H;have c4b0:decide (0≤x7_1)=true:=decide_eq_true c4;clear c4;by_cases c5:x7_1<((rd_L2 l0 0).length:Int)
       ·rw [if_pos c5] at H;have c5b0:decide (x7_1<((rd_L2 l0 0).length:Int))=true:=decide_eq_true c5;clear c5;by_cases c6:x7_1<(l0.length:Int)
        ·rw [if_pos c6] at H;have c6b0:decide (x7_1<(l0.length:Int))=true:=decide_eq_true c6;clear c6;by_cases c7:0<((rd_L2 l0 x7_1).length:Int)
         ·rw [if_pos c7] at H;have c7b0:decide (0<((rd_L2 l0 x7_1).length:Int))=true:=decide_eq_true c7;have c7b1:decide (0<(rd_L2 l0 x7_1).length)=true:=decide_eq_true (by omega);clear c7;have H':=aM H;clear H;have p101:0≤(0:Int):=(by omega);have q101:0<(l0.length:Int):=of_decide_eq_true (by first|(with_reducible assumption)|assumption);obtain ⟨ad101,A101_0,c101_0,e101,hx101_0,hl101_0,hi101_0⟩:=at_L2 HR0.out 0 p101 q101
          cases e101
          have qi101:(0<l0.length)=True:=eq_true (by omega);(try rw [show ((0:Int)).toNat=0 from rfl] at hx101_0);(try rw [Addr.add_zero'] at hx101_0);have HR101_0:=aM hi101_0;have HC101_0:=aM hl101_0;clear hi101_0 hl101_0;replace p101:=eq_true p101;replace q101:=eq_true q101;have p102:0≤(x7_1:Int):=of_decide_eq_true (by first|(with_reducible assumption)|assumption);have q102:x7_1<((rd_L2 l0 0).length:Int):=of_decide_eq_true (by first|(with_reducible assumption)|assumption);obtain ⟨ad102,e102,hx102_0⟩:=Kd.at_int HR101_0.out x7_1 p102 q102
          cases e102
          replace p102:=eq_true p102;replace q102:=eq_true q102;have p103:0≤(x7_1:Int):=of_decide_eq_true (by first|(with_reducible assumption)|assumption);have q103:x7_1<(l0.length:Int):=of_decide_eq_true (by first|(with_reducible assumption)|assumption);obtain ⟨ad103,A103_0,c103_0,e103,hx103_0,hl103_0,hi103_0⟩:=at_L2 HR0.out x7_1 p103 q103;obtain rfl:ad101=ad103:=(by injection e103);have HR103_0:=aM hi103_0;have HC103_0:=aM hl103_0;clear hi103_0 hl103_0;replace p103:=eq_true p103;replace q103:=eq_true q103;have p104:0≤(0:Int):=(by omega);have q104:0<((rd_L2 l0 x7_1).length:Int):=of_decide_eq_true (by first|(with_reducible assumption)|assumption);obtain ⟨ad104,e104,hx104_0⟩:=Kd.at_int HR103_0.out 0 p104 q104
          cases e104
          have qi104:(0<(rd_L2 l0 x7_1).length)=True:=eq_true (by omega);(try rw [show ((0:Int)).toNat=0 from rfl] at hx104_0);(try rw [Addr.add_zero'] at hx104_0);replace p104:=eq_true p104;replace q104:=eq_true q104;go_wp2
          repeat (go_quiet (fail);try go_wp2)
          go_roundg k1
          case measure=>have:=HK1.out;omega
          case rel=>exact ⟨(wrap64 (x3_1+(wrap64 ((rd (rd_L2 l0 0) x7_1) - (rd (rd_L2 l0 x7_1) 0))))),(wrap64 (x7_1+1)),(by first|rfl|(simp;done)|(simp [*];done)),(by first|rfl|(simp;done)|(simp [*];done)),H',⟨by have:=HK1.out;omega⟩,by repeat (first|exact Drawn0.refl _|apply Drawn0.step)⟩
         ·rw [if_neg c7] at H;exact absurd H (by simp)
        ·rw [if_neg c6] at H;exact absurd H (by simp)
       ·rw [if_neg c5] at H;exact absurd H (by simp)
      ·rw [if_neg c4] at H;exact absurd H (by simp)
     ·rw [if_neg c3] at H;exact absurd H (by simp)
    ·rw [if_neg c2] at H;have c2b0:decide (x7_1<(l0.length:Int))=false:=decide_eq_false c2;clear c2;obtain rfl:=Option.some.inj H;go_wp2
     repeat (go_quiet (fail);try go_wp2)
     go_ret
     exact ⟨by first|rfl|(simp;done)|(simp [*];done),by repeat (first|exact Drawn0.refl _|apply Drawn0.step)⟩

def spec_FlowValue.f (k:Nat) (l0:List (List Int)):Option (Int×Bool):=(spec_l13Rows.f k l0).bind fun t101=>(if t101=true then ((spec_l13Value.f k l0).bind fun t102=>(some (t102,true))) else (some (0,false)))
set_option maxHeartbeats 8000000 in
set_option maxRecDepth 100000 in
theorem spec_FlowValue.calls (k:Nat) (A0:Option Addr) (c0:Nat) (l0:List (List Int)) (r1:Int) (r2:Bool) (w:World) (hr0:Kd.C (Kd.slice 3 (Kd.int .i64)) w A0 l0.length l0) (hc0:l0.length≤c0) (h:spec_FlowValue.f k l0=some (r1,r2)) :
    Calls Try.prog 107 #[.slice A0 l0.length c0] w fun e w'=>e= .returned (.tuple #[.int .i64 r1,.bool r2])∧Drawn0 w w':=by
  have HR0:=aM hr0;have HC0:=aM hc0;clear hr0 hc0;have H:((spec_l13Rows.f k l0).bind fun t101=>(if t101=true then ((spec_l13Value.f k l0).bind fun t102=>(some (t102,true))) else (some (0,false))))=some (r1,r2):=h;clear h;replace H:=Option.bind_eq_some_iff.mp H;obtain ⟨t101,A20,H⟩:=H;replace H:(if t101=true then ((spec_l13Value.f k l0).bind fun t102=>(some (t102,true))) else (some (0,false)))=some (r1,r2):=H;have A2:=aM A20;clear A20;by_cases c3:t101=true
  ·subst c3;have H1:((spec_l13Value.f k l0).bind fun t102=>(some (t102,true)))=some (r1,r2):=by rw [if_pos rfl] at H;exact H
   clear H;have H:=H1;clear H1;replace H:=Option.bind_eq_some_iff.mp H;obtain ⟨t102,A40,H⟩:=H;replace H:(some (t102,true))=some (r1,r2):=H;have A4:=aM A40;clear A40;simp only [Option.some.injEq,Prod.mk.injEq] at H;obtain ⟨rfl,rfl⟩:=H;go_enter Try.func107,Try.ntmps107;go_wp2_with (first|((with_reducible refine Qh (f:=197) rfl ?_);refine goesL_ (some 5) rfl rfl Try.func197 (by kernel_rfl) rfl #[.slice A0 l0.length c0] rfl (by (try simp only [aD,aE,aF]);first|done|rfl|(simp only [aG,aH];rfl)) ?_;(with_reducible refine (spec_l13Rows.calls k _ _ l0 true _ ?side1 ?side2 A2.out).mono ?_);(case side1=>repeat (first|exact HR0.out|(with_reducible refine Kd.Qe ?_ _)|(with_reducible refine Kd.Qf ?_ _)|(with_reducible refine Kd.C_drew ?_)));(case side2=>exact HC0.out);rintro e w' ⟨rfl,⟨nd,rfl⟩⟩;refine ⟨_,rfl,?_⟩)|((with_reducible refine Qh (f:=185) rfl ?_);refine goesL_ (some 8) rfl rfl Try.func185 (by kernel_rfl) rfl #[.slice A0 l0.length c0] rfl (by (try simp only [aD,aE,aF]);first|done|rfl|(simp only [aG,aH];rfl)) ?_;(with_reducible refine (spec_l13Value.calls k _ _ l0 t102 _ ?side1 ?side2 A4.out).mono ?_);(case side1=>repeat (first|exact HR0.out|(with_reducible refine Kd.Qe ?_ _)|(with_reducible refine Kd.Qf ?_ _)|(with_reducible refine Kd.C_drew ?_)));(case side2=>exact HC0.out);rintro e w' ⟨rfl,⟨nd,rfl⟩⟩;refine ⟨_,rfl,?_⟩))
   go_ret2
   exact ⟨by first|rfl|(simp;done)|(simp [*];done),by repeat (first|exact Drawn0.refl _|apply Drawn0.step)⟩
  ·replace c3:=Bool.eq_false_iff.mpr c3;subst c3;have H1:(some (0,false))=some (r1,r2):=by rw [if_neg (show ¬ (false=true) by decide)] at H;exact H
   clear H;have H:=H1;clear H1;simp only [Option.some.injEq,Prod.mk.injEq] at H;obtain ⟨rfl,rfl⟩:=H;go_enter Try.func107,Try.ntmps107;go_wp2_with (first|((with_reducible refine Qh (f:=197) rfl ?_);refine goesL_ (some 5) rfl rfl Try.func197 (by kernel_rfl) rfl #[.slice A0 l0.length c0] rfl (by (try simp only [aD,aE,aF]);first|done|rfl|(simp only [aG,aH];rfl)) ?_;(with_reducible refine (spec_l13Rows.calls k _ _ l0 false _ ?side1 ?side2 A2.out).mono ?_);(case side1=>repeat (first|exact HR0.out|(with_reducible refine Kd.Qe ?_ _)|(with_reducible refine Kd.Qf ?_ _)|(with_reducible refine Kd.C_drew ?_)));(case side2=>exact HC0.out);rintro e w' ⟨rfl,⟨nd,rfl⟩⟩;refine ⟨_,rfl,?_⟩))
   go_ret2
   exact ⟨by first|rfl|(simp;done)|(simp [*];done),by repeat (first|exact Drawn0.refl _|apply Drawn0.step)⟩

mutual
def laws_FnCuts.j0:Nat→List Int→List (List Int)→List Int→Bool→Bool→Option (Bool)
  |0,_,_,_,_,_=>none
  |k+1,x1,x5,x6,x7,x55=>if x55=true then (some false) else (if x7=true then ((impl_MostFlow.f k x5).bind fun bt113=>((impl_CutWidth.f k x5 x6).bind fun bt118=>(if bt113.2.2=true then (if bt118.2=true then (if bt118.1=bt113.2.1 then (laws_FnCuts.j1 k x1) else (some false)) else (some false)) else (some false)))) else (laws_FnCuts.j1 k x1))
def laws_FnCuts.j1:Nat→List Int→Option (Bool)
  |0,_=>none
  |k+1,x1=>(spec_DrawCutWidth.f k x1).bind fun bt120=>((impl_CutWidth.f k bt120.1 bt120.2).bind fun bt126=>((spec_CutWidth.f k bt120.1 bt120.2).bind fun bt128=>((spec_DrawFlowValue.f k x1).bind fun t130=>((impl_FlowValue.f k t130).bind fun bt133=>((spec_FlowValue.f k t130).bind fun bt135=>(if (bt126.2 != bt128.2)=true then (laws_FnCuts.j2 k bt120.1 bt126.1 bt126.2 true) else (if bt126.1=bt128.1 then (if (bt133.2 != bt135.2)=true then (laws_FnCuts.j2 k bt120.1 bt126.1 bt126.2 true) else (laws_FnCuts.j2 k bt120.1 bt126.1 bt126.2 (bt133.1 != bt135.1))) else (laws_FnCuts.j2 k bt120.1 bt126.1 bt126.2 true))))))))
def laws_FnCuts.j2:Nat→List (List Int)→Int→Bool→Bool→Option (Bool)
  |0,_,_,_,_=>none
  |k+1,x15,x17,x18,x126=>if x126=true then (some false) else (if x18=true then ((impl_MostFlow.f k x15).bind fun bt137=>(if bt137.2.2=true then (some (decide (bt137.2.1≤x17))) else (some false))) else (some true))
end
def laws_FnCuts.f (k:Nat) (l0:List Int) (l1:List Int):Option (Bool):=if (wrap64 ((l0.length:Int)+(l1.length:Int))) > 1048576 then (some true) else ((spec_DrawCutOf.f k l0).bind fun t101=>((impl_CutOf.f k t101).bind fun bt104=>((spec_CutOf.f k t101).bind fun bt108=>(if (bt104.2 != bt108.2)=true then (laws_FnCuts.j0 k l1 t101 bt104.1 bt104.2 true) else ((laws_sameInts.f k bt104.1 bt108.1).bind fun t112=>(laws_FnCuts.j0 k l1 t101 bt104.1 bt104.2 (!t112)))))))
set_option maxHeartbeats 8000000 in
set_option maxRecDepth 100000 in
theorem laws_FnCuts.calls (k:Nat) (A0:Option Addr) (c0:Nat) (l0:List Int) (A1:Option Addr) (c1:Nat) (l1:List Int) (r:Bool) (w:World) (hr0:Kd.C (Kd.int .u8) w A0 l0.length l0) (hc0:l0.length≤c0) (hr1:Kd.C (Kd.int .u8) w A1 l1.length l1) (hc1:l1.length≤c1) (h:laws_FnCuts.f k l0 l1=some r) :
    Calls Try.prog 14 #[.slice A0 l0.length c0,.slice A1 l1.length c1] w fun e w'=>e= .returned (.bool r)∧Below w.heap.size w w':=by
  have HR0:=aM hr0;have HC0:=aM hc0;clear hr0 hc0;have HR1:=aM hr1;have HC1:=aM hc1;clear hr1 hc1;have HB:=aM (Below.refl w.heap.size w);have H:(if (wrap64 ((l0.length:Int)+(l1.length:Int))) > 1048576 then (some true) else ((spec_DrawCutOf.f k l0).bind fun t101=>((impl_CutOf.f k t101).bind fun bt104=>((spec_CutOf.f k t101).bind fun bt108=>(if (bt104.2 != bt108.2)=true then (laws_FnCuts.j0 k l1 t101 bt104.1 bt104.2 true) else ((laws_sameInts.f k bt104.1 bt108.1).bind fun t112=>(laws_FnCuts.j0 k l1 t101 bt104.1 bt104.2 (!t112))))))))=some r:=h;clear h;by_cases c3:(wrap64 ((l0.length:Int)+(l1.length:Int))) > 1048576
  ·rw [if_pos c3] at H;have c3b0:decide (1048576<(wrap64 ((l0.length:Int)+(l1.length:Int))))=true:=decide_eq_true c3;clear c3
   as_aux_lemma=>
    obtain rfl:=Option.some.inj H;go_enter Try.func14,Try.ntmps14;go_wp2
    go_ret
    exact ⟨by first|rfl|(simp [errW_none,errW_some] <;> rfl)|(simp [*,errW_none,errW_some] <;> rfl),by repeat (first|(with_reducible first|exact HB.out|apply Qb|apply Qa|apply Qc)|exact HB.out)⟩
  ·rw [if_neg c3] at H;have c3b0:decide (1048576<(wrap64 ((l0.length:Int)+(l1.length:Int))))=false:=decide_eq_false c3;clear c3;replace H:=Option.bind_eq_some_iff.mp H;obtain ⟨t101,A40,H⟩:=H;replace H:((impl_CutOf.f k t101).bind fun bt104=>((spec_CutOf.f k t101).bind fun bt108=>(if (bt104.2 != bt108.2)=true then (laws_FnCuts.j0 k l1 t101 bt104.1 bt104.2 true) else ((laws_sameInts.f k bt104.1 bt108.1).bind fun t112=>(laws_FnCuts.j0 k l1 t101 bt104.1 bt104.2 (!t112))))))=some r:=H;have A4:=aM A40;clear A40;replace H:=Option.bind_eq_some_iff.mp H;obtain ⟨⟨t104,t105⟩,A50,H⟩:=H;replace H:((spec_CutOf.f k t101).bind fun bt108=>(if (t105 != bt108.2)=true then (laws_FnCuts.j0 k l1 t101 t104 t105 true) else ((laws_sameInts.f k t104 bt108.1).bind fun t112=>(laws_FnCuts.j0 k l1 t101 t104 t105 (!t112)))))=some r:=H;have A5:=aM A50;clear A50;replace H:=Option.bind_eq_some_iff.mp H;obtain ⟨⟨t108,t109⟩,A60,H⟩:=H;replace H:(if (t105 != t109)=true then (laws_FnCuts.j0 k l1 t101 t104 t105 true) else ((laws_sameInts.f k t104 t108).bind fun t112=>(laws_FnCuts.j0 k l1 t101 t104 t105 (!t112))))=some r:=H;have A6:=aM A60;clear A60;have HC7:=aM H;clear H;go_enter Try.func14,Try.ntmps14
   go_upto_region 6 with (first|((with_reducible refine Qh (f:=100) rfl ?_);refine goesL_ (some 36) rfl rfl Try.func100 (by kernel_rfl) rfl #[.slice A0 l0.length c0] rfl (by (try simp only [aD,aE,aF]);first|done|rfl|(simp only [aG,aH];rfl)) ?_;(with_reducible refine (spec_DrawCutOf.calls k _ _ l0 t101 _ ?side1 ?side2 A4.out).mono ?_);(case side1=>repeat (first|exact HR0.out|(with_reducible refine Kd.Qe ?_ _)|(with_reducible refine Kd.Qf ?_ _)|(with_reducible refine Kd.C_drew ?_)));(case side2=>exact HC0.out);rintro e w8 ⟨v102,rfl,ho0,hb⟩;refine ⟨_,rfl,?_⟩;have n0_:=aM (Kd.S_lower ho0 (Qn (by repeat (first|(with_reducible first|exact HB.out|apply Qb|apply Qa|apply Qc)|exact HB.out))));have n1_:=aM (Qm (by repeat (first|(with_reducible first|exact HB.out|apply Qb|apply Qa|apply Qc)|exact HB.out)) hb);clear HB;have HO103:=n0_;have HB:=n1_;clear n0_ n1_;(try clear hb);(try clear hb2);(try clear hk);(try clear hi);(try clear ho0);obtain ⟨Ao9,co9,eo9⟩:=Kd.S_slice HO103.out;subst eo9)|((with_reducible refine Qh (f:=101) rfl ?_);refine goesL_ (some 39) rfl rfl Try.func101 (by kernel_rfl) rfl #[.slice Ao9 t101.length co9] rfl (by (try simp only [aD,aE,aF]);first|done|rfl|(simp only [aG,aH];rfl)) ?_;(with_reducible refine (impl_CutOf.calls k _ _ t101 t104 t105 _ ?side1 ?side2 A5.out).mono ?_);(case side1=>repeat (first|exact (Kd.Qd HO103.out).2.2|(with_reducible refine Kd.Qe ?_ _)|(with_reducible refine Kd.Qf ?_ _)|(with_reducible refine Kd.C_drew ?_)));(case side2=>exact (Kd.Qd HO103.out).2.1);rintro e w10 ⟨v106,rfl,ho0,hb⟩;refine ⟨_,rfl,?_⟩;have n0_:=aM (Kd.S_elder' (by (with_reducible repeat (first|apply Kd.Qj|apply Kd.Qi|apply Kd.S_drew));exact HO103.out) (Kd.R_base ho0) hb);have n1_:=aM (Kd.R_lower ho0 (Qn (by repeat (first|(with_reducible first|exact HB.out|apply Qb|apply Qa|apply Qc)|exact HB.out))));have n2_:=aM (Qm (by repeat (first|(with_reducible first|exact HB.out|apply Qb|apply Qa|apply Qc)|exact HB.out)) hb);clear HO103;clear HB;have HO103:=n0_;have HO107:=n1_;have HB:=n2_;clear n0_ n1_ n2_;(try clear hb);(try clear hb2);(try clear hk);(try clear hi);(try clear ho0))|((with_reducible refine Qh (f:=102) rfl ?_);refine goesL_ (some 44) rfl rfl Try.func102 (by kernel_rfl) rfl #[.slice Ao9 t101.length co9] rfl (by (try simp only [aD,aE,aF]);first|done|rfl|(simp only [aG,aH];rfl)) ?_;(with_reducible refine (spec_CutOf.calls k _ _ t101 t108 t109 _ ?side1 ?side2 A6.out).mono ?_);(case side1=>repeat (first|exact (Kd.Qd HO103.out).2.2|(with_reducible refine Kd.Qe ?_ _)|(with_reducible refine Kd.Qf ?_ _)|(with_reducible refine Kd.C_drew ?_)));(case side2=>exact (Kd.Qd HO103.out).2.1);rintro e w11 ⟨v110,rfl,ho0,hb⟩;refine ⟨_,rfl,?_⟩;have n0_:=aM (Kd.S_elder' (by (with_reducible repeat (first|apply Kd.Qj|apply Kd.Qi|apply Kd.S_drew));exact HO103.out) (Kd.R_base ho0) hb);have n1_:=aM (Kd.R_elder' (by (with_reducible repeat (first|apply Kd.Qk|apply Kd.Ql|apply Kd.R_drew));exact HO107.out) (Kd.R_base ho0) hb);have n2_:=aM (Kd.R_lower (Kd.R_new' ho0 (Kd.R_lt (by (with_reducible repeat (first|apply Kd.Qk|apply Kd.Ql|apply Kd.R_drew));exact HO107.out))) (Qn (by repeat (first|(with_reducible first|exact HB.out|apply Qb|apply Qa|apply Qc)|exact HB.out))));have n3_:=aM (Qm (by repeat (first|(with_reducible first|exact HB.out|apply Qb|apply Qa|apply Qc)|exact HB.out)) hb);clear HO103;clear HO107;clear HB;have HO103:=n0_;have HO107:=n1_;have HO111:=n2_;have HB:=n3_;clear n0_ n1_ n2_ n3_;(try clear hb);(try clear hb2);(try clear hk);(try clear hi);(try clear ho0)))
   (try simp only [Act.put,aA,aB,aC])
   go_cut [55] (fun v55 wc=>∃ (kq:Nat) (x55_6:Bool),v55= .bool x55_6∧Aside0 (laws_FnCuts.j0 kq l1 t101 t104 t105 x55_6=some r)∧Aside0 (kq≤k)∧Aside0 (Kd.S (Kd.slice 3 (Kd.int .i64)) 23 wc w.heap.size (fun k_=>some k_≠(v106:Value).ownBlock) (.slice Ao9 t101.length co9) t101)∧Aside0 (Kd.R (Kd.int .i64) 3 wc w.heap.size (fun _=>True) v106 t104)∧Aside0 (Below w.heap.size w wc))
   case first=>
    have H:=HC7.out;clear HC7;by_cases c12:(t105 != t109)=true
    ·rw [if_pos c12] at H;have c12b0:(t105 != t109)=true:=c12;(try (have c12b1:decide (t105=t109)=false:=by simpa using c12));(try (have c12b2:(t105 == t109)=false:=by simpa using c12));(try (have c12b3: ¬ (t105=t109):=by simpa using c12));clear c12
     (first|rw [c12b0]|(simp only [i64_w,i32_w];rw [c12b0])|skip)
     as_aux_lemma=>
      have H':=aM H;clear H;go_wp2
      go_meet
      case rel=>exact ⟨_,(true),(by first|rfl|(simp;done)|(simp [*];done)),H',⟨by first|omega|exact Nat.le_refl _⟩,⟨by (with_reducible repeat (first|apply Kd.Qj|apply Kd.Qi|apply Kd.S_drew));exact Kd.S_mono HO103.out (fun _ hk=>hk.1.2)⟩,⟨by (with_reducible repeat (first|apply Kd.Qk|apply Kd.Ql|apply Kd.R_drew));exact Kd.R_mono HO107.out (fun _ hk=>trivial)⟩,⟨by repeat (first|(with_reducible first|exact HB.out|apply Qb|apply Qa|apply Qc)|exact HB.out)⟩⟩
    ·rw [if_neg c12] at H;have c12b0:(t105 != t109)=false:=by simpa using c12
     (try (have c12b1:decide (t105=t109)=true:=by simpa using c12));(try (have c12b2:(t105 == t109)=true:=by simpa using c12));clear c12
     (first|rw [c12b0]|(simp only [i64_w,i32_w];rw [c12b0])|skip)
     replace H:=Option.bind_eq_some_iff.mp H;obtain ⟨t112,A130,H⟩:=H;replace H:(laws_FnCuts.j0 k l1 t101 t104 t105 (!t112))=some r:=H;have A13:=aM A130;clear A130
     as_aux_lemma=>
      have H':=aM H;clear H;obtain ⟨Ao14,co14,eo14⟩:=Kd.R_slice HO107.out;subst eo14;obtain ⟨Ao15,co15,eo15⟩:=Kd.R_slice HO111.out;subst eo15;go_wp2_with (first|(go_at_call 20;(with_reducible refine (laws_sameInts.calls k _ _ t104 _ _ t108 t112 _ ?side1 ?side2 ?side3 ?side4 A13.out).mono ?_);(case side1=>repeat (first|exact (Kd.Qq HO107.out).2.2|(with_reducible refine Kd.Qe ?_ _)|(with_reducible refine Kd.Qf ?_ _)|(with_reducible refine Kd.C_drew ?_)));(case side2=>exact (Kd.Qq HO107.out).2.1);(case side3=>repeat (first|exact (Kd.Qq HO111.out).2.2|(with_reducible refine Kd.Qe ?_ _)|(with_reducible refine Kd.Qf ?_ _)|(with_reducible refine Kd.C_drew ?_)));(case side4=>exact (Kd.Qq HO111.out).2.1);rintro e w' ⟨rfl,⟨nd,rfl⟩⟩))
      go_meet
      case rel=>exact ⟨_,(!t112),(by first|rfl|(simp;done)|(simp [*];done)),H',⟨by first|omega|exact Nat.le_refl _⟩,⟨by (with_reducible repeat (first|apply Kd.Qj|apply Kd.Qi|apply Kd.S_drew));exact Kd.S_mono HO103.out (fun _ hk=>hk.1.2)⟩,⟨by (with_reducible repeat (first|apply Kd.Qk|apply Kd.Ql|apply Kd.R_drew));exact Kd.R_mono HO107.out (fun _ hk=>trivial)⟩,⟨by repeat (first|(with_reducible first|exact HB.out|apply Qb|apply Qa|apply Qc)|exact HB.out)⟩⟩
   case rest=>
    clear HC7;(try clear c1);(try clear p2);(try clear c3);(try clear c3b0);(try clear p6);(try clear c10);(try clear c12);(try clear c12b0);(try clear c12b1);(try clear c12b2);(try clear c14);obtain ⟨kq,x55_6,rfl,HA,HJ6,HO_5,HO_6,HB⟩:=hcut
    cases kq with
    |zero=>exact absurd HA.out (by simp [laws_FnCuts.j0])
    |succ kj6=>
     have H:=HA.out;clear HA;simp only [laws_FnCuts.j0] at H;by_cases c16:x55_6=true
     ·subst c16;have H1:(some false)=some r:=by rw [if_pos rfl] at H;exact H
      clear H;have H:=H1;clear H1
      as_aux_lemma=>
       obtain rfl:=Option.some.inj H;go_wp2
       go_ret
       exact ⟨by first|rfl|(simp [errW_none,errW_some] <;> rfl)|(simp [*,errW_none,errW_some] <;> rfl),by repeat (first|(with_reducible first|exact HB.out|apply Qb|apply Qa|apply Qc)|exact HB.out)⟩
     ·replace c16:=Bool.eq_false_iff.mpr c16;subst c16;have H1:(if t105=true then ((impl_MostFlow.f kj6 t101).bind fun bt113=>((impl_CutWidth.f kj6 t101 t104).bind fun bt118=>(if bt113.2.2=true then (if bt118.2=true then (if bt118.1=bt113.2.1 then (laws_FnCuts.j1 kj6 l1) else (some false)) else (some false)) else (some false)))) else (laws_FnCuts.j1 kj6 l1))=some r:=by rw [if_neg (show ¬ (false=true) by decide)] at H;exact H
      clear H;have H:=H1;clear H1;have HC17:=aM H;clear H
      go_upto_if 56 with (fail)
      go_cut [] (fun wc=>∃ (kq:Nat),Aside0 (laws_FnCuts.j1 kq l1=some r)∧Aside0 (kq≤kj6)∧Aside0 (Below w.heap.size w wc))
      case first=>
       have H:=HC17.out;clear HC17;by_cases c18:t105=true
       ·subst c18;have H1:((impl_MostFlow.f kj6 t101).bind fun bt113=>((impl_CutWidth.f kj6 t101 t104).bind fun bt118=>(if bt113.2.2=true then (if bt118.2=true then (if bt118.1=bt113.2.1 then (laws_FnCuts.j1 kj6 l1) else (some false)) else (some false)) else (some false))))=some r:=by rw [if_pos rfl] at H;exact H
        clear H;have H:=H1;clear H1;replace H:=Option.bind_eq_some_iff.mp H;obtain ⟨⟨t113,t114,t115⟩,A190,H⟩:=H;replace H:((impl_CutWidth.f kj6 t101 t104).bind fun bt118=>(if t115=true then (if bt118.2=true then (if bt118.1=t114 then (laws_FnCuts.j1 kj6 l1) else (some false)) else (some false)) else (some false)))=some r:=H;have A19:=aM A190;clear A190;replace H:=Option.bind_eq_some_iff.mp H;obtain ⟨⟨t118,t119⟩,A200,H⟩:=H;replace H:(if t115=true then (if t119=true then (if t118=t114 then (laws_FnCuts.j1 kj6 l1) else (some false)) else (some false)) else (some false))=some r:=H;have A20:=aM A200;clear A200;by_cases c21:t115=true
        ·subst c21;have H1:(if t119=true then (if t118=t114 then (laws_FnCuts.j1 kj6 l1) else (some false)) else (some false))=some r:=by rw [if_pos rfl] at H;exact H
         clear H;have H:=H1;clear H1;by_cases c22:t119=true
         ·subst c22;have H1:(if t118=t114 then (laws_FnCuts.j1 kj6 l1) else (some false))=some r:=by rw [if_pos rfl] at H;exact H
          clear H;have H:=H1;clear H1;by_cases c23:t118=t114
          ·rw [if_pos c23] at H;have c23b0:(t118 == t114)=true:=beq_iff_eq.mpr c23;have c23b1:(t118 != t114)=false:=bne_eq_false_iff_eq.mpr c23;clear c23
           (first|rw [c23b0]|(simp only [i64_w,i32_w];rw [c23b0])|skip)
           as_aux_lemma=>
            have H':=aM H;clear H;go_wp2_with (first|((with_reducible refine Qh (f:=91) rfl ?_);refine goesL_ (some 59) rfl rfl Try.func91 (by kernel_rfl) rfl #[.slice Ao9 t101.length co9] rfl (by (try simp only [aD,aE,aF]);first|done|rfl|(simp only [aG,aH];rfl)) ?_;(with_reducible refine (impl_MostFlow.calls kj6 _ _ t101 t113 t114 true _ ?side1 ?side2 A19.out).mono ?_);(case side1=>repeat (first|exact (Kd.Qd HO_5.out).2.2|(with_reducible refine Kd.Qe ?_ _)|(with_reducible refine Kd.Qf ?_ _)|(with_reducible refine Kd.C_drew ?_)));(case side2=>exact (Kd.Qd HO_5.out).2.1);rintro e w24 ⟨v116,rfl,ho0,hb⟩;refine ⟨_,rfl,?_⟩;have n0_:=aM (Kd.S_elder' (by (with_reducible repeat (first|apply Kd.Qj|apply Kd.Qi|apply Kd.S_drew));exact HO_5.out) (Kd.S_base ho0) hb);have n1_:=aM (Kd.R_below (by (with_reducible repeat (first|apply Kd.Qk|apply Kd.Ql|apply Kd.R_drew));exact HO_6.out) hb);have n2_:=aM (Kd.S_lower (Kd.S_new' (Kd.S_new' ho0 (Kd.S_lt (by (with_reducible repeat (first|apply Kd.Qj|apply Kd.Qi|apply Kd.S_drew));exact HO_5.out))) (Kd.R_lt (by (with_reducible repeat (first|apply Kd.Qk|apply Kd.Ql|apply Kd.R_drew));exact HO_6.out))) (Qn (by repeat (first|(with_reducible first|exact HB.out|apply Qb|apply Qa|apply Qc)|exact HB.out))));have n3_:=aM (Qm (by repeat (first|(with_reducible first|exact HB.out|apply Qb|apply Qa|apply Qc)|exact HB.out)) hb);clear HO_5;clear HO_6;clear HB;have HO_5:=n0_;have HO_6:=n1_;have HO117:=n2_;have HB:=n3_;clear n0_ n1_ n2_ n3_;(try clear hb);(try clear hb2);(try clear hk);(try clear hi);(try clear ho0);obtain ⟨Ao25,co25,eo25⟩:=Kd.R_slice HO_6.out;subst eo25)|((with_reducible refine Qh (f:=103) rfl ?_);refine goesL_ (some 66) rfl rfl Try.func103 (by kernel_rfl) rfl #[.slice Ao9 t101.length co9,.slice Ao25 t104.length co25] rfl (by (try simp only [aD,aE,aF]);first|done|rfl|(simp only [aG,aH];rfl)) ?_;(with_reducible refine (impl_CutWidth.calls kj6 _ _ t101 _ _ t104 t118 true _ ?side1 ?side2 ?side3 ?side4 A20.out).mono ?_);(case side1=>repeat (first|exact (Kd.Qd HO_5.out).2.2|(with_reducible refine Kd.Qe ?_ _)|(with_reducible refine Kd.Qf ?_ _)|(with_reducible refine Kd.C_drew ?_)));(case side2=>exact (Kd.Qd HO_5.out).2.1);(case side3=>repeat (first|exact (Kd.Qq HO_6.out).2.2|(with_reducible refine Kd.Qe ?_ _)|(with_reducible refine Kd.Qf ?_ _)|(with_reducible refine Kd.C_drew ?_)));(case side4=>exact (Kd.Qq HO_6.out).2.1);rintro e w26 ⟨rfl,hb⟩;refine ⟨_,rfl,?_⟩;have n0_:=aM (Kd.S_below (by (with_reducible repeat (first|apply Kd.Qj|apply Kd.Qi|apply Kd.S_drew));exact HO_5.out) hb);have n1_:=aM (Kd.R_below (by (with_reducible repeat (first|apply Kd.Qk|apply Kd.Ql|apply Kd.R_drew));exact HO_6.out) hb);have n2_:=aM (Kd.S_below (by (with_reducible repeat (first|apply Kd.Qj|apply Kd.Qi|apply Kd.S_drew));exact HO117.out) hb);have n3_:=aM (Qm (by repeat (first|(with_reducible first|exact HB.out|apply Qb|apply Qa|apply Qc)|exact HB.out)) hb);clear HO_5;clear HO_6;clear HO117;clear HB;have HO_5:=n0_;have HO_6:=n1_;have HO117:=n2_;have HB:=n3_;clear n0_ n1_ n2_ n3_;(try clear hb);(try clear hb2);(try clear hk);(try clear hi)))
            go_meet
            case rel=>exact ⟨_,H',⟨by have:=HJ6.out;first|omega|exact Nat.le_refl _⟩,⟨by repeat (first|(with_reducible first|exact HB.out|apply Qb|apply Qa|apply Qc)|exact HB.out)⟩⟩
          ·rw [if_neg c23] at H;have c23b0:(t118 == t114)=false:=beq_eq_false_iff_ne.mpr c23;have c23b1:(t118 != t114)=true:=bne_iff_ne.mpr c23
           (first|rw [c23b0]|(simp only [i64_w,i32_w];rw [c23b0])|skip)
           as_aux_lemma=>
            obtain rfl:=Option.some.inj H;go_wp2_with (first|((with_reducible refine Qh (f:=91) rfl ?_);refine goesL_ (some 59) rfl rfl Try.func91 (by kernel_rfl) rfl #[.slice Ao9 t101.length co9] rfl (by (try simp only [aD,aE,aF]);first|done|rfl|(simp only [aG,aH];rfl)) ?_;(with_reducible refine (impl_MostFlow.calls kj6 _ _ t101 t113 t114 true _ ?side1 ?side2 A19.out).mono ?_);(case side1=>repeat (first|exact (Kd.Qd HO_5.out).2.2|(with_reducible refine Kd.Qe ?_ _)|(with_reducible refine Kd.Qf ?_ _)|(with_reducible refine Kd.C_drew ?_)));(case side2=>exact (Kd.Qd HO_5.out).2.1);rintro e w27 ⟨v116,rfl,ho0,hb⟩;refine ⟨_,rfl,?_⟩;have n0_:=aM (Kd.S_elder' (by (with_reducible repeat (first|apply Kd.Qj|apply Kd.Qi|apply Kd.S_drew));exact HO_5.out) (Kd.S_base ho0) hb);have n1_:=aM (Kd.R_below (by (with_reducible repeat (first|apply Kd.Qk|apply Kd.Ql|apply Kd.R_drew));exact HO_6.out) hb);have n2_:=aM (Kd.S_lower (Kd.S_new' (Kd.S_new' ho0 (Kd.S_lt (by (with_reducible repeat (first|apply Kd.Qj|apply Kd.Qi|apply Kd.S_drew));exact HO_5.out))) (Kd.R_lt (by (with_reducible repeat (first|apply Kd.Qk|apply Kd.Ql|apply Kd.R_drew));exact HO_6.out))) (Qn (by repeat (first|(with_reducible first|exact HB.out|apply Qb|apply Qa|apply Qc)|exact HB.out))));have n3_:=aM (Qm (by repeat (first|(with_reducible first|exact HB.out|apply Qb|apply Qa|apply Qc)|exact HB.out)) hb);clear HO_5;clear HO_6;clear HB;have HO_5:=n0_;have HO_6:=n1_;have HO117:=n2_;have HB:=n3_;clear n0_ n1_ n2_ n3_;(try clear hb);(try clear hb2);(try clear hk);(try clear hi);(try clear ho0);obtain ⟨Ao28,co28,eo28⟩:=Kd.R_slice HO_6.out;subst eo28)|((with_reducible refine Qh (f:=103) rfl ?_);refine goesL_ (some 66) rfl rfl Try.func103 (by kernel_rfl) rfl #[.slice Ao9 t101.length co9,.slice Ao28 t104.length co28] rfl (by (try simp only [aD,aE,aF]);first|done|rfl|(simp only [aG,aH];rfl)) ?_;(with_reducible refine (impl_CutWidth.calls kj6 _ _ t101 _ _ t104 t118 true _ ?side1 ?side2 ?side3 ?side4 A20.out).mono ?_);(case side1=>repeat (first|exact (Kd.Qd HO_5.out).2.2|(with_reducible refine Kd.Qe ?_ _)|(with_reducible refine Kd.Qf ?_ _)|(with_reducible refine Kd.C_drew ?_)));(case side2=>exact (Kd.Qd HO_5.out).2.1);(case side3=>repeat (first|exact (Kd.Qq HO_6.out).2.2|(with_reducible refine Kd.Qe ?_ _)|(with_reducible refine Kd.Qf ?_ _)|(with_reducible refine Kd.C_drew ?_)));(case side4=>exact (Kd.Qq HO_6.out).2.1);rintro e w29 ⟨rfl,hb⟩;refine ⟨_,rfl,?_⟩;have n0_:=aM (Kd.S_below (by (with_reducible repeat (first|apply Kd.Qj|apply Kd.Qi|apply Kd.S_drew));exact HO_5.out) hb);have n1_:=aM (Kd.R_below (by (with_reducible repeat (first|apply Kd.Qk|apply Kd.Ql|apply Kd.R_drew));exact HO_6.out) hb);have n2_:=aM (Kd.S_below (by (with_reducible repeat (first|apply Kd.Qj|apply Kd.Qi|apply Kd.S_drew));exact HO117.out) hb);have n3_:=aM (Qm (by repeat (first|(with_reducible first|exact HB.out|apply Qb|apply Qa|apply Qc)|exact HB.out)) hb);clear HO_5;clear HO_6;clear HO117;clear HB;have HO_5:=n0_;have HO_6:=n1_;have HO117:=n2_;have HB:=n3_;clear n0_ n1_ n2_ n3_;(try clear hb);(try clear hb2);(try clear hk);(try clear hi)))
            go_ret
            exact ⟨by first|rfl|(simp [errW_none,errW_some] <;> rfl)|(simp [*,errW_none,errW_some] <;> rfl),by repeat (first|(with_reducible first|exact HB.out|apply Qb|apply Qa|apply Qc)|exact HB.out)⟩
         ·replace c22:=Bool.eq_false_iff.mpr c22;subst c22;have H1:(some false)=some r:=by rw [if_neg (show ¬ (false=true) by decide)] at H;exact H
          clear H;have H:=H1;clear H1
          as_aux_lemma=>
           obtain rfl:=Option.some.inj H;go_wp2_with (first|((with_reducible refine Qh (f:=91) rfl ?_);refine goesL_ (some 59) rfl rfl Try.func91 (by kernel_rfl) rfl #[.slice Ao9 t101.length co9] rfl (by (try simp only [aD,aE,aF]);first|done|rfl|(simp only [aG,aH];rfl)) ?_;(with_reducible refine (impl_MostFlow.calls kj6 _ _ t101 t113 t114 true _ ?side1 ?side2 A19.out).mono ?_);(case side1=>repeat (first|exact (Kd.Qd HO_5.out).2.2|(with_reducible refine Kd.Qe ?_ _)|(with_reducible refine Kd.Qf ?_ _)|(with_reducible refine Kd.C_drew ?_)));(case side2=>exact (Kd.Qd HO_5.out).2.1);rintro e w30 ⟨v116,rfl,ho0,hb⟩;refine ⟨_,rfl,?_⟩;have n0_:=aM (Kd.S_elder' (by (with_reducible repeat (first|apply Kd.Qj|apply Kd.Qi|apply Kd.S_drew));exact HO_5.out) (Kd.S_base ho0) hb);have n1_:=aM (Kd.R_below (by (with_reducible repeat (first|apply Kd.Qk|apply Kd.Ql|apply Kd.R_drew));exact HO_6.out) hb);have n2_:=aM (Kd.S_lower (Kd.S_new' (Kd.S_new' ho0 (Kd.S_lt (by (with_reducible repeat (first|apply Kd.Qj|apply Kd.Qi|apply Kd.S_drew));exact HO_5.out))) (Kd.R_lt (by (with_reducible repeat (first|apply Kd.Qk|apply Kd.Ql|apply Kd.R_drew));exact HO_6.out))) (Qn (by repeat (first|(with_reducible first|exact HB.out|apply Qb|apply Qa|apply Qc)|exact HB.out))));have n3_:=aM (Qm (by repeat (first|(with_reducible first|exact HB.out|apply Qb|apply Qa|apply Qc)|exact HB.out)) hb);clear HO_5;clear HO_6;clear HB;have HO_5:=n0_;have HO_6:=n1_;have HO117:=n2_;have HB:=n3_;clear n0_ n1_ n2_ n3_;(try clear hb);(try clear hb2);(try clear hk);(try clear hi);(try clear ho0);obtain ⟨Ao31,co31,eo31⟩:=Kd.R_slice HO_6.out;subst eo31)|((with_reducible refine Qh (f:=103) rfl ?_);refine goesL_ (some 66) rfl rfl Try.func103 (by kernel_rfl) rfl #[.slice Ao9 t101.length co9,.slice Ao31 t104.length co31] rfl (by (try simp only [aD,aE,aF]);first|done|rfl|(simp only [aG,aH];rfl)) ?_;(with_reducible refine (impl_CutWidth.calls kj6 _ _ t101 _ _ t104 t118 false _ ?side1 ?side2 ?side3 ?side4 A20.out).mono ?_);(case side1=>repeat (first|exact (Kd.Qd HO_5.out).2.2|(with_reducible refine Kd.Qe ?_ _)|(with_reducible refine Kd.Qf ?_ _)|(with_reducible refine Kd.C_drew ?_)));(case side2=>exact (Kd.Qd HO_5.out).2.1);(case side3=>repeat (first|exact (Kd.Qq HO_6.out).2.2|(with_reducible refine Kd.Qe ?_ _)|(with_reducible refine Kd.Qf ?_ _)|(with_reducible refine Kd.C_drew ?_)));(case side4=>exact (Kd.Qq HO_6.out).2.1);rintro e w32 ⟨rfl,hb⟩;refine ⟨_,rfl,?_⟩;have n0_:=aM (Kd.S_below (by (with_reducible repeat (first|apply Kd.Qj|apply Kd.Qi|apply Kd.S_drew));exact HO_5.out) hb);have n1_:=aM (Kd.R_below (by (with_reducible repeat (first|apply Kd.Qk|apply Kd.Ql|apply Kd.R_drew));exact HO_6.out) hb);have n2_:=aM (Kd.S_below (by (with_reducible repeat (first|apply Kd.Qj|apply Kd.Qi|apply Kd.S_drew));exact HO117.out) hb);have n3_:=aM (Qm (by repeat (first|(with_reducible first|exact HB.out|apply Qb|apply Qa|apply Qc)|exact HB.out)) hb);clear HO_5;clear HO_6;clear HO117;clear HB;have HO_5:=n0_;have HO_6:=n1_;have HO117:=n2_;have HB:=n3_;clear n0_ n1_ n2_ n3_;(try clear hb);(try clear hb2);(try clear hk);(try clear hi)))
           go_ret
           exact ⟨by first|rfl|(simp [errW_none,errW_some] <;> rfl)|(simp [*,errW_none,errW_some] <;> rfl),by repeat (first|(with_reducible first|exact HB.out|apply Qb|apply Qa|apply Qc)|exact HB.out)⟩
        ·replace c21:=Bool.eq_false_iff.mpr c21;subst c21;have H1:(some false)=some r:=by rw [if_neg (show ¬ (false=true) by decide)] at H;exact H
         clear H;have H:=H1;clear H1
         as_aux_lemma=>
          obtain rfl:=Option.some.inj H;go_wp2_with (first|((with_reducible refine Qh (f:=91) rfl ?_);refine goesL_ (some 59) rfl rfl Try.func91 (by kernel_rfl) rfl #[.slice Ao9 t101.length co9] rfl (by (try simp only [aD,aE,aF]);first|done|rfl|(simp only [aG,aH];rfl)) ?_;(with_reducible refine (impl_MostFlow.calls kj6 _ _ t101 t113 t114 false _ ?side1 ?side2 A19.out).mono ?_);(case side1=>repeat (first|exact (Kd.Qd HO_5.out).2.2|(with_reducible refine Kd.Qe ?_ _)|(with_reducible refine Kd.Qf ?_ _)|(with_reducible refine Kd.C_drew ?_)));(case side2=>exact (Kd.Qd HO_5.out).2.1);rintro e w33 ⟨v116,rfl,ho0,hb⟩;refine ⟨_,rfl,?_⟩;have n0_:=aM (Kd.S_elder' (by (with_reducible repeat (first|apply Kd.Qj|apply Kd.Qi|apply Kd.S_drew));exact HO_5.out) (Kd.S_base ho0) hb);have n1_:=aM (Kd.R_below (by (with_reducible repeat (first|apply Kd.Qk|apply Kd.Ql|apply Kd.R_drew));exact HO_6.out) hb);have n2_:=aM (Kd.S_lower (Kd.S_new' (Kd.S_new' ho0 (Kd.S_lt (by (with_reducible repeat (first|apply Kd.Qj|apply Kd.Qi|apply Kd.S_drew));exact HO_5.out))) (Kd.R_lt (by (with_reducible repeat (first|apply Kd.Qk|apply Kd.Ql|apply Kd.R_drew));exact HO_6.out))) (Qn (by repeat (first|(with_reducible first|exact HB.out|apply Qb|apply Qa|apply Qc)|exact HB.out))));have n3_:=aM (Qm (by repeat (first|(with_reducible first|exact HB.out|apply Qb|apply Qa|apply Qc)|exact HB.out)) hb);clear HO_5;clear HO_6;clear HB;have HO_5:=n0_;have HO_6:=n1_;have HO117:=n2_;have HB:=n3_;clear n0_ n1_ n2_ n3_;(try clear hb);(try clear hb2);(try clear hk);(try clear hi);(try clear ho0);obtain ⟨Ao34,co34,eo34⟩:=Kd.R_slice HO_6.out;subst eo34)|((with_reducible refine Qh (f:=103) rfl ?_);refine goesL_ (some 66) rfl rfl Try.func103 (by kernel_rfl) rfl #[.slice Ao9 t101.length co9,.slice Ao34 t104.length co34] rfl (by (try simp only [aD,aE,aF]);first|done|rfl|(simp only [aG,aH];rfl)) ?_;(with_reducible refine (impl_CutWidth.calls kj6 _ _ t101 _ _ t104 t118 t119 _ ?side1 ?side2 ?side3 ?side4 A20.out).mono ?_);(case side1=>repeat (first|exact (Kd.Qd HO_5.out).2.2|(with_reducible refine Kd.Qe ?_ _)|(with_reducible refine Kd.Qf ?_ _)|(with_reducible refine Kd.C_drew ?_)));(case side2=>exact (Kd.Qd HO_5.out).2.1);(case side3=>repeat (first|exact (Kd.Qq HO_6.out).2.2|(with_reducible refine Kd.Qe ?_ _)|(with_reducible refine Kd.Qf ?_ _)|(with_reducible refine Kd.C_drew ?_)));(case side4=>exact (Kd.Qq HO_6.out).2.1);rintro e w35 ⟨rfl,hb⟩;refine ⟨_,rfl,?_⟩;have n0_:=aM (Kd.S_below (by (with_reducible repeat (first|apply Kd.Qj|apply Kd.Qi|apply Kd.S_drew));exact HO_5.out) hb);have n1_:=aM (Kd.R_below (by (with_reducible repeat (first|apply Kd.Qk|apply Kd.Ql|apply Kd.R_drew));exact HO_6.out) hb);have n2_:=aM (Kd.S_below (by (with_reducible repeat (first|apply Kd.Qj|apply Kd.Qi|apply Kd.S_drew));exact HO117.out) hb);have n3_:=aM (Qm (by repeat (first|(with_reducible first|exact HB.out|apply Qb|apply Qa|apply Qc)|exact HB.out)) hb);clear HO_5;clear HO_6;clear HO117;clear HB;have HO_5:=n0_;have HO_6:=n1_;have HO117:=n2_;have HB:=n3_;clear n0_ n1_ n2_ n3_;(try clear hb);(try clear hb2);(try clear hk);(try clear hi)))
          go_ret
          exact ⟨by first|rfl|(simp [errW_none,errW_some] <;> rfl)|(simp [*,errW_none,errW_some] <;> rfl),by repeat (first|(with_reducible first|exact HB.out|apply Qb|apply Qa|apply Qc)|exact HB.out)⟩
       ·replace c18:=Bool.eq_false_iff.mpr c18;subst c18;have H1:(laws_FnCuts.j1 kj6 l1)=some r:=by rw [if_neg (show ¬ (false=true) by decide)] at H;exact H
        clear H;have H:=H1;clear H1
        as_aux_lemma=>
         have H':=aM H;clear H;go_wp2
         go_meet
         case rel=>exact ⟨_,H',⟨by have:=HJ6.out;first|omega|exact Nat.le_refl _⟩,⟨by repeat (first|(with_reducible first|exact HB.out|apply Qb|apply Qa|apply Qc)|exact HB.out)⟩⟩
      case rest=>
       clear HC17;(try clear c1);(try clear c2);(try clear p2);(try clear c3);(try clear c3b0);(try clear p6);(try clear c9);(try clear c10);(try clear c12);(try clear c12b0);(try clear c12b1);(try clear c12b2);(try clear c14);(try clear c16);(try clear c18);(try clear c21);(try clear c22);(try clear c23);(try clear c23b0);(try clear c23b1);(try clear p2);(try clear p6);obtain ⟨kq,HA,HJ16,HB⟩:=hcut
       cases kq with
       |zero=>exact absurd HA.out (by simp [laws_FnCuts.j1])
       |succ kj16=>
        have H:=HA.out;clear HA;simp only [laws_FnCuts.j1] at H;replace H:=Option.bind_eq_some_iff.mp H;obtain ⟨⟨t120,t121⟩,A360,H⟩:=H;replace H:((impl_CutWidth.f kj16 t120 t121).bind fun bt126=>((spec_CutWidth.f kj16 t120 t121).bind fun bt128=>((spec_DrawFlowValue.f kj16 l1).bind fun t130=>((impl_FlowValue.f kj16 t130).bind fun bt133=>((spec_FlowValue.f kj16 t130).bind fun bt135=>(if (bt126.2 != bt128.2)=true then (laws_FnCuts.j2 kj16 t120 bt126.1 bt126.2 true) else (if bt126.1=bt128.1 then (if (bt133.2 != bt135.2)=true then (laws_FnCuts.j2 kj16 t120 bt126.1 bt126.2 true) else (laws_FnCuts.j2 kj16 t120 bt126.1 bt126.2 (bt133.1 != bt135.1))) else (laws_FnCuts.j2 kj16 t120 bt126.1 bt126.2 true))))))))=some r:=H;have A36:=aM A360;clear A360;replace H:=Option.bind_eq_some_iff.mp H;obtain ⟨⟨t126,t127⟩,A370,H⟩:=H;replace H:((spec_CutWidth.f kj16 t120 t121).bind fun bt128=>((spec_DrawFlowValue.f kj16 l1).bind fun t130=>((impl_FlowValue.f kj16 t130).bind fun bt133=>((spec_FlowValue.f kj16 t130).bind fun bt135=>(if (t127 != bt128.2)=true then (laws_FnCuts.j2 kj16 t120 t126 t127 true) else (if t126=bt128.1 then (if (bt133.2 != bt135.2)=true then (laws_FnCuts.j2 kj16 t120 t126 t127 true) else (laws_FnCuts.j2 kj16 t120 t126 t127 (bt133.1 != bt135.1))) else (laws_FnCuts.j2 kj16 t120 t126 t127 true)))))))=some r:=H;have A37:=aM A370;clear A370;replace H:=Option.bind_eq_some_iff.mp H;obtain ⟨⟨t128,t129⟩,A380,H⟩:=H;replace H:((spec_DrawFlowValue.f kj16 l1).bind fun t130=>((impl_FlowValue.f kj16 t130).bind fun bt133=>((spec_FlowValue.f kj16 t130).bind fun bt135=>(if (t127 != t129)=true then (laws_FnCuts.j2 kj16 t120 t126 t127 true) else (if t126=t128 then (if (bt133.2 != bt135.2)=true then (laws_FnCuts.j2 kj16 t120 t126 t127 true) else (laws_FnCuts.j2 kj16 t120 t126 t127 (bt133.1 != bt135.1))) else (laws_FnCuts.j2 kj16 t120 t126 t127 true))))))=some r:=H;have A38:=aM A380;clear A380;replace H:=Option.bind_eq_some_iff.mp H;obtain ⟨t130,A390,H⟩:=H;replace H:((impl_FlowValue.f kj16 t130).bind fun bt133=>((spec_FlowValue.f kj16 t130).bind fun bt135=>(if (t127 != t129)=true then (laws_FnCuts.j2 kj16 t120 t126 t127 true) else (if t126=t128 then (if (bt133.2 != bt135.2)=true then (laws_FnCuts.j2 kj16 t120 t126 t127 true) else (laws_FnCuts.j2 kj16 t120 t126 t127 (bt133.1 != bt135.1))) else (laws_FnCuts.j2 kj16 t120 t126 t127 true)))))=some r:=H;have A39:=aM A390;clear A390;replace H:=Option.bind_eq_some_iff.mp H;obtain ⟨⟨t133,t134⟩,A400,H⟩:=H;replace H:((spec_FlowValue.f kj16 t130).bind fun bt135=>(if (t127 != t129)=true then (laws_FnCuts.j2 kj16 t120 t126 t127 true) else (if t126=t128 then (if (t134 != bt135.2)=true then (laws_FnCuts.j2 kj16 t120 t126 t127 true) else (laws_FnCuts.j2 kj16 t120 t126 t127 (t133 != bt135.1))) else (laws_FnCuts.j2 kj16 t120 t126 t127 true))))=some r:=H;have A40:=aM A400;clear A400;replace H:=Option.bind_eq_some_iff.mp H;obtain ⟨⟨t135,t136⟩,A410,H⟩:=H;replace H:(if (t127 != t129)=true then (laws_FnCuts.j2 kj16 t120 t126 t127 true) else (if t126=t128 then (if (t134 != t136)=true then (laws_FnCuts.j2 kj16 t120 t126 t127 true) else (laws_FnCuts.j2 kj16 t120 t126 t127 (t133 != t135))) else (laws_FnCuts.j2 kj16 t120 t126 t127 true)))=some r:=H;have A41:=aM A410;clear A410;have HC42:=aM H;clear H
        go_upto_region 19 with (first|((with_reducible refine Qh (f:=104) rfl ?_);refine goesL_ (some 82) rfl rfl Try.func104 (by kernel_rfl) rfl #[.slice A1 l1.length c1] rfl (by (try simp only [aD,aE,aF]);first|done|rfl|(simp only [aG,aH];rfl)) ?_;(with_reducible refine (spec_DrawCutWidth.calls kj16 _ _ l1 t120 t121 _ ?side1 ?side2 A36.out).mono ?_);(case side1=>repeat (first|exact (Kd.C_below HR1.out HB.out)|(with_reducible refine Kd.Qe ?_ _)|(with_reducible refine Kd.Qf ?_ _)|(with_reducible refine Kd.C_drew ?_)));(case side2=>exact HC1.out);rintro e w43 ⟨v122,v124,rfl,ho0,ho1,hb⟩;refine ⟨_,rfl,?_⟩;have n0_:=aM (Kd.S_lower ho0 (Qn (by repeat (first|(with_reducible first|exact HB.out|apply Qb|apply Qa|apply Qc)|exact HB.out))));have n1_:=aM (Kd.R_lower ho1 (Qn (by repeat (first|(with_reducible first|exact HB.out|apply Qb|apply Qa|apply Qc)|exact HB.out))));have n2_:=aM (Qm (by repeat (first|(with_reducible first|exact HB.out|apply Qb|apply Qa|apply Qc)|exact HB.out)) hb);clear HB;have HO123:=n0_;have HO125:=n1_;have HB:=n2_;clear n0_ n1_ n2_;(try clear hb);(try clear hb2);(try clear hk);(try clear hi);(try clear ho0);(try clear ho1);obtain ⟨Ao44,co44,eo44⟩:=Kd.S_slice HO123.out;subst eo44;obtain ⟨Ao45,co45,eo45⟩:=Kd.R_slice HO125.out;subst eo45)|((with_reducible refine Qh (f:=103) rfl ?_);refine goesL_ (some 88) rfl rfl Try.func103 (by kernel_rfl) rfl #[.slice Ao44 t120.length co44,.slice Ao45 t121.length co45] rfl (by (try simp only [aD,aE,aF]);first|done|rfl|(simp only [aG,aH];rfl)) ?_;(with_reducible refine (impl_CutWidth.calls kj16 _ _ t120 _ _ t121 t126 t127 _ ?side1 ?side2 ?side3 ?side4 A37.out).mono ?_);(case side1=>repeat (first|exact (Kd.Qd HO123.out).2.2|(with_reducible refine Kd.Qe ?_ _)|(with_reducible refine Kd.Qf ?_ _)|(with_reducible refine Kd.C_drew ?_)));(case side2=>exact (Kd.Qd HO123.out).2.1);(case side3=>repeat (first|exact (Kd.Qq HO125.out).2.2|(with_reducible refine Kd.Qe ?_ _)|(with_reducible refine Kd.Qf ?_ _)|(with_reducible refine Kd.C_drew ?_)));(case side4=>exact (Kd.Qq HO125.out).2.1);rintro e w46 ⟨rfl,hb⟩;refine ⟨_,rfl,?_⟩;have n0_:=aM (Kd.S_below (by (with_reducible repeat (first|apply Kd.Qj|apply Kd.Qi|apply Kd.S_drew));exact HO123.out) hb);have n1_:=aM (Kd.R_below (by (with_reducible repeat (first|apply Kd.Qk|apply Kd.Ql|apply Kd.R_drew));exact HO125.out) hb);have n2_:=aM (Qm (by repeat (first|(with_reducible first|exact HB.out|apply Qb|apply Qa|apply Qc)|exact HB.out)) hb);clear HO123;clear HO125;clear HB;have HO123:=n0_;have HO125:=n1_;have HB:=n2_;clear n0_ n1_ n2_;(try clear hb);(try clear hb2);(try clear hk);(try clear hi))|((with_reducible refine Qh (f:=105) rfl ?_);refine goesL_ (some 94) rfl rfl Try.func105 (by kernel_rfl) rfl #[.slice Ao44 t120.length co44,.slice Ao45 t121.length co45] rfl (by (try simp only [aD,aE,aF]);first|done|rfl|(simp only [aG,aH];rfl)) ?_;(with_reducible refine (spec_CutWidth.calls kj16 _ _ t120 _ _ t121 t128 t129 _ ?side1 ?side2 ?side3 ?side4 A38.out).mono ?_);(case side1=>repeat (first|exact (Kd.Qd HO123.out).2.2|(with_reducible refine Kd.Qe ?_ _)|(with_reducible refine Kd.Qf ?_ _)|(with_reducible refine Kd.C_drew ?_)));(case side2=>exact (Kd.Qd HO123.out).2.1);(case side3=>repeat (first|exact (Kd.Qq HO125.out).2.2|(with_reducible refine Kd.Qe ?_ _)|(with_reducible refine Kd.Qf ?_ _)|(with_reducible refine Kd.C_drew ?_)));(case side4=>exact (Kd.Qq HO125.out).2.1);rintro e w' ⟨rfl,⟨nd,rfl⟩⟩;refine ⟨_,rfl,?_⟩)|((with_reducible refine Qh (f:=106) rfl ?_);refine goesL_ (some 98) rfl rfl Try.func106 (by kernel_rfl) rfl #[.slice A1 l1.length c1] rfl (by (try simp only [aD,aE,aF]);first|done|rfl|(simp only [aG,aH];rfl)) ?_;(with_reducible refine (spec_DrawFlowValue.calls kj16 _ _ l1 t130 _ ?side1 ?side2 A39.out).mono ?_);(case side1=>repeat (first|exact (Kd.C_below HR1.out (by repeat (first|(with_reducible first|exact HB.out|apply Qb|apply Qa|apply Qc)|exact HB.out)))|(with_reducible refine Kd.Qe ?_ _)|(with_reducible refine Kd.Qf ?_ _)|(with_reducible refine Kd.C_drew ?_)));(case side2=>exact HC1.out);rintro e w47 ⟨v131,rfl,ho0,hb⟩;refine ⟨_,rfl,?_⟩;have n0_:=aM (Kd.S_elder' (by (with_reducible repeat (first|apply Kd.Qj|apply Kd.Qi|apply Kd.S_drew));exact HO123.out) (Kd.S_base ho0) hb);have n1_:=aM (Kd.R_below (by (with_reducible repeat (first|apply Kd.Qk|apply Kd.Ql|apply Kd.R_drew));exact HO125.out) hb);have n2_:=aM (Kd.S_lower (Kd.S_new' (Kd.S_new' ho0 (Kd.S_lt (by (with_reducible repeat (first|apply Kd.Qj|apply Kd.Qi|apply Kd.S_drew));exact HO123.out))) (Kd.R_lt (by (with_reducible repeat (first|apply Kd.Qk|apply Kd.Ql|apply Kd.R_drew));exact HO125.out))) (Qn (by repeat (first|(with_reducible first|exact HB.out|apply Qb|apply Qa|apply Qc)|exact HB.out))));have n3_:=aM (Qm (by repeat (first|(with_reducible first|exact HB.out|apply Qb|apply Qa|apply Qc)|exact HB.out)) hb);clear HO123;clear HO125;clear HB;have HO123:=n0_;have HO125:=n1_;have HO132:=n2_;have HB:=n3_;clear n0_ n1_ n2_ n3_;(try clear hb);(try clear hb2);(try clear hk);(try clear hi);(try clear ho0);obtain ⟨Ao48,co48,eo48⟩:=Kd.S_slice HO132.out;subst eo48)|((with_reducible refine Qh (f:=94) rfl ?_);refine goesL_ (some 101) rfl rfl Try.func94 (by kernel_rfl) rfl #[.slice Ao48 t130.length co48] rfl (by (try simp only [aD,aE,aF]);first|done|rfl|(simp only [aG,aH];rfl)) ?_;(with_reducible refine (impl_FlowValue.calls kj16 _ _ t130 t133 t134 _ ?side1 ?side2 A40.out).mono ?_);(case side1=>repeat (first|exact (Kd.Qd HO132.out).2.2|(with_reducible refine Kd.Qe ?_ _)|(with_reducible refine Kd.Qf ?_ _)|(with_reducible refine Kd.C_drew ?_)));(case side2=>exact (Kd.Qd HO132.out).2.1);rintro e w49 ⟨rfl,hb⟩;refine ⟨_,rfl,?_⟩;have n0_:=aM (Kd.S_below (by (with_reducible repeat (first|apply Kd.Qj|apply Kd.Qi|apply Kd.S_drew));exact HO123.out) hb);have n1_:=aM (Kd.R_below (by (with_reducible repeat (first|apply Kd.Qk|apply Kd.Ql|apply Kd.R_drew));exact HO125.out) hb);have n2_:=aM (Kd.S_below (by (with_reducible repeat (first|apply Kd.Qj|apply Kd.Qi|apply Kd.S_drew));exact HO132.out) hb);have n3_:=aM (Qm (by repeat (first|(with_reducible first|exact HB.out|apply Qb|apply Qa|apply Qc)|exact HB.out)) hb);clear HO123;clear HO125;clear HO132;clear HB;have HO123:=n0_;have HO125:=n1_;have HO132:=n2_;have HB:=n3_;clear n0_ n1_ n2_ n3_;(try clear hb);(try clear hb2);(try clear hk);(try clear hi))|((with_reducible refine Qh (f:=107) rfl ?_);refine goesL_ (some 106) rfl rfl Try.func107 (by kernel_rfl) rfl #[.slice Ao48 t130.length co48] rfl (by (try simp only [aD,aE,aF]);first|done|rfl|(simp only [aG,aH];rfl)) ?_;(with_reducible refine (spec_FlowValue.calls kj16 _ _ t130 t135 t136 _ ?side1 ?side2 A41.out).mono ?_);(case side1=>repeat (first|exact (Kd.Qd HO132.out).2.2|(with_reducible refine Kd.Qe ?_ _)|(with_reducible refine Kd.Qf ?_ _)|(with_reducible refine Kd.C_drew ?_)));(case side2=>exact (Kd.Qd HO132.out).2.1);rintro e w' ⟨rfl,⟨nd,rfl⟩⟩;refine ⟨_,rfl,?_⟩))
        (try simp only [Act.put,aA,aB,aC])
        go_cut [126] (fun v126 wc=>∃ (kq:Nat) (x126_41:Bool),v126= .bool x126_41∧Aside0 (laws_FnCuts.j2 kq t120 t126 t127 x126_41=some r)∧Aside0 (kq≤kj16)∧Aside0 (Kd.S (Kd.slice 3 (Kd.int .i64)) 23 wc w.heap.size (fun _=>True) (.slice Ao44 t120.length co44) t120)∧Aside0 (Below w.heap.size w wc))
        case first=>
         have H:=HC42.out;clear HC42;by_cases c50:(t127 != t129)=true
         ·rw [if_pos c50] at H;have c50b0:(t127 != t129)=true:=c50;(try (have c50b1:decide (t127=t129)=false:=by simpa using c50));(try (have c50b2:(t127 == t129)=false:=by simpa using c50));(try (have c50b3: ¬ (t127=t129):=by simpa using c50));clear c50
          (first|rw [c50b0]|(simp only [i64_w,i32_w];rw [c50b0])|skip)
          as_aux_lemma=>
           have H':=aM H;clear H;go_wp2
           go_meet
           case rel=>exact ⟨_,(true),(by first|rfl|(simp;done)|(simp [*];done)),H',⟨by have:=HJ6.out;have:=HJ16.out;first|omega|exact Nat.le_refl _⟩,⟨by (with_reducible repeat (first|apply Kd.Qj|apply Kd.Qi|apply Kd.S_drew));exact Kd.S_mono HO123.out (fun _ hk=>trivial)⟩,⟨by repeat (first|(with_reducible first|exact HB.out|apply Qb|apply Qa|apply Qc)|exact HB.out)⟩⟩
         ·rw [if_neg c50] at H;have c50b0:(t127 != t129)=false:=by simpa using c50
          (try (have c50b1:decide (t127=t129)=true:=by simpa using c50));(try (have c50b2:(t127 == t129)=true:=by simpa using c50));clear c50
          (first|rw [c50b0]|(simp only [i64_w,i32_w];rw [c50b0])|skip)
          by_cases c51:t126=t128
          ·rw [if_pos c51] at H;have c51b0:(t126 == t128)=true:=beq_iff_eq.mpr c51;have c51b1:(t126 != t128)=false:=bne_eq_false_iff_eq.mpr c51;clear c51;by_cases c52:(t134 != t136)=true
           ·rw [if_pos c52] at H;have c52b0:(t134 != t136)=true:=c52;(try (have c52b1:decide (t134=t136)=false:=by simpa using c52));(try (have c52b2:(t134 == t136)=false:=by simpa using c52));(try (have c52b3: ¬ (t134=t136):=by simpa using c52));clear c52
            as_aux_lemma=>
             have H':=aM H;clear H;go_wp2
             go_meet
             case rel=>exact ⟨_,(true),(by first|rfl|(simp;done)|(simp [*];done)),H',⟨by have:=HJ6.out;have:=HJ16.out;first|omega|exact Nat.le_refl _⟩,⟨by (with_reducible repeat (first|apply Kd.Qj|apply Kd.Qi|apply Kd.S_drew));exact Kd.S_mono HO123.out (fun _ hk=>trivial)⟩,⟨by repeat (first|(with_reducible first|exact HB.out|apply Qb|apply Qa|apply Qc)|exact HB.out)⟩⟩
           ·rw [if_neg c52] at H;have c52b0:(t134 != t136)=false:=by simpa using c52
            (try (have c52b1:decide (t134=t136)=true:=by simpa using c52));(try (have c52b2:(t134 == t136)=true:=by simpa using c52));clear c52
            as_aux_lemma=>
             have H':=aM H;clear H;go_wp2
             go_meet
             case rel=>exact ⟨_,((t133 != t135)),(by first|rfl|(simp;done)|(simp [*];done)),H',⟨by have:=HJ6.out;have:=HJ16.out;first|omega|exact Nat.le_refl _⟩,⟨by (with_reducible repeat (first|apply Kd.Qj|apply Kd.Qi|apply Kd.S_drew));exact Kd.S_mono HO123.out (fun _ hk=>trivial)⟩,⟨by repeat (first|(with_reducible first|exact HB.out|apply Qb|apply Qa|apply Qc)|exact HB.out)⟩⟩
          ·rw [if_neg c51] at H;have c51b0:(t126 == t128)=false:=beq_eq_false_iff_ne.mpr c51;have c51b1:(t126 != t128)=true:=bne_iff_ne.mpr c51
           as_aux_lemma=>
            have H':=aM H;clear H;go_wp2
            go_meet
            case rel=>exact ⟨_,(true),(by first|rfl|(simp;done)|(simp [*];done)),H',⟨by have:=HJ6.out;have:=HJ16.out;first|omega|exact Nat.le_refl _⟩,⟨by (with_reducible repeat (first|apply Kd.Qj|apply Kd.Qi|apply Kd.S_drew));exact Kd.S_mono HO123.out (fun _ hk=>trivial)⟩,⟨by repeat (first|(with_reducible first|exact HB.out|apply Qb|apply Qa|apply Qc)|exact HB.out)⟩⟩
        case rest=>
         clear HC42;(try clear c1);(try clear c2);(try clear p2);(try clear c3);(try clear c3b0);(try clear c5);(try clear p6);(try clear c9);(try clear c10);(try clear c12);(try clear c12b0);(try clear c12b1);(try clear c12b2);(try clear c14);(try clear c16);(try clear c18);(try clear c21);(try clear c22);(try clear c23);(try clear c23b0);(try clear c23b1);(try clear c50);(try clear c50b0);(try clear c50b1);(try clear c50b2);(try clear c51);(try clear c51b0);(try clear c51b1);(try clear c52);(try clear c52b0);(try clear c52b1);(try clear c52b2);(try clear p2);(try clear p6);obtain ⟨kq,x126_41,rfl,HA,HJ41,HO_15,HB⟩:=hcut
         cases kq with
         |zero=>exact absurd HA.out (by simp [laws_FnCuts.j2])
         |succ kj41=>
          have H:=HA.out;clear HA;simp only [laws_FnCuts.j2] at H;by_cases c53:x126_41=true
          ·subst c53;have H1:(some false)=some r:=by rw [if_pos rfl] at H;exact H
           clear H;have H:=H1;clear H1
           as_aux_lemma=>
            obtain rfl:=Option.some.inj H;go_wp2
            go_ret
            exact ⟨by first|rfl|(simp [errW_none,errW_some] <;> rfl)|(simp [*,errW_none,errW_some] <;> rfl),by repeat (first|(with_reducible first|exact HB.out|apply Qb|apply Qa|apply Qc)|exact HB.out)⟩
          ·replace c53:=Bool.eq_false_iff.mpr c53;subst c53;have H1:(if t127=true then ((impl_MostFlow.f kj41 t120).bind fun bt137=>(if bt137.2.2=true then (some (decide (bt137.2.1≤t126))) else (some false))) else (some true))=some r:=by rw [if_neg (show ¬ (false=true) by decide)] at H;exact H
           clear H;have H:=H1;clear H1;by_cases c54:t127=true
           ·subst c54;have H1:((impl_MostFlow.f kj41 t120).bind fun bt137=>(if bt137.2.2=true then (some (decide (bt137.2.1≤t126))) else (some false)))=some r:=by rw [if_pos rfl] at H;exact H
            clear H;have H:=H1;clear H1;replace H:=Option.bind_eq_some_iff.mp H;obtain ⟨⟨t137,t138,t139⟩,A550,H⟩:=H;replace H:(if t139=true then (some (decide (t138≤t126))) else (some false))=some r:=H;have A55:=aM A550;clear A550;by_cases c56:t139=true
            ·subst c56;have H1:(some (decide (t138≤t126)))=some r:=by rw [if_pos rfl] at H;exact H
             clear H;have H:=H1;clear H1
             as_aux_lemma=>
              obtain rfl:=Option.some.inj H;go_wp2_with (first|((with_reducible refine Qh (f:=91) rfl ?_);refine goesL_ (some 130) rfl rfl Try.func91 (by kernel_rfl) rfl #[.slice Ao44 t120.length co44] rfl (by (try simp only [aD,aE,aF]);first|done|rfl|(simp only [aG,aH];rfl)) ?_;(with_reducible refine (impl_MostFlow.calls kj41 _ _ t120 t137 t138 true _ ?side1 ?side2 A55.out).mono ?_);(case side1=>repeat (first|exact (Kd.Qd HO_15.out).2.2|(with_reducible refine Kd.Qe ?_ _)|(with_reducible refine Kd.Qf ?_ _)|(with_reducible refine Kd.C_drew ?_)));(case side2=>exact (Kd.Qd HO_15.out).2.1);rintro e w57 ⟨v140,rfl,ho0,hb⟩;refine ⟨_,rfl,?_⟩;have n0_:=aM (Kd.S_elder' (by (with_reducible repeat (first|apply Kd.Qj|apply Kd.Qi|apply Kd.S_drew));exact HO_15.out) (Kd.S_base ho0) hb);have n1_:=aM (Kd.S_lower (Kd.S_new' ho0 (Kd.S_lt (by (with_reducible repeat (first|apply Kd.Qj|apply Kd.Qi|apply Kd.S_drew));exact HO_15.out))) (Qn (by repeat (first|(with_reducible first|exact HB.out|apply Qb|apply Qa|apply Qc)|exact HB.out))));have n2_:=aM (Qm (by repeat (first|(with_reducible first|exact HB.out|apply Qb|apply Qa|apply Qc)|exact HB.out)) hb);clear HO_15;clear HB;have HO_15:=n0_;have HO141:=n1_;have HB:=n2_;clear n0_ n1_ n2_;(try clear hb);(try clear hb2);(try clear hk);(try clear hi);(try clear ho0)))
              go_ret
              exact ⟨by first|rfl|(simp [errW_none,errW_some] <;> rfl)|(simp [*,errW_none,errW_some] <;> rfl),by repeat (first|(with_reducible first|exact HB.out|apply Qb|apply Qa|apply Qc)|exact HB.out)⟩
            ·replace c56:=Bool.eq_false_iff.mpr c56;subst c56;have H1:(some false)=some r:=by rw [if_neg (show ¬ (false=true) by decide)] at H;exact H
             clear H;have H:=H1;clear H1
             as_aux_lemma=>
              obtain rfl:=Option.some.inj H;go_wp2_with (first|((with_reducible refine Qh (f:=91) rfl ?_);refine goesL_ (some 130) rfl rfl Try.func91 (by kernel_rfl) rfl #[.slice Ao44 t120.length co44] rfl (by (try simp only [aD,aE,aF]);first|done|rfl|(simp only [aG,aH];rfl)) ?_;(with_reducible refine (impl_MostFlow.calls kj41 _ _ t120 t137 t138 false _ ?side1 ?side2 A55.out).mono ?_);(case side1=>repeat (first|exact (Kd.Qd HO_15.out).2.2|(with_reducible refine Kd.Qe ?_ _)|(with_reducible refine Kd.Qf ?_ _)|(with_reducible refine Kd.C_drew ?_)));(case side2=>exact (Kd.Qd HO_15.out).2.1);rintro e w58 ⟨v140,rfl,ho0,hb⟩;refine ⟨_,rfl,?_⟩;have n0_:=aM (Kd.S_elder' (by (with_reducible repeat (first|apply Kd.Qj|apply Kd.Qi|apply Kd.S_drew));exact HO_15.out) (Kd.S_base ho0) hb);have n1_:=aM (Kd.S_lower (Kd.S_new' ho0 (Kd.S_lt (by (with_reducible repeat (first|apply Kd.Qj|apply Kd.Qi|apply Kd.S_drew));exact HO_15.out))) (Qn (by repeat (first|(with_reducible first|exact HB.out|apply Qb|apply Qa|apply Qc)|exact HB.out))));have n2_:=aM (Qm (by repeat (first|(with_reducible first|exact HB.out|apply Qb|apply Qa|apply Qc)|exact HB.out)) hb);clear HO_15;clear HB;have HO_15:=n0_;have HO141:=n1_;have HB:=n2_;clear n0_ n1_ n2_;(try clear hb);(try clear hb2);(try clear hk);(try clear hi);(try clear ho0)))
              go_ret
              exact ⟨by first|rfl|(simp [errW_none,errW_some] <;> rfl)|(simp [*,errW_none,errW_some] <;> rfl),by repeat (first|(with_reducible first|exact HB.out|apply Qb|apply Qa|apply Qc)|exact HB.out)⟩
           ·replace c54:=Bool.eq_false_iff.mpr c54;subst c54;have H1:(some true)=some r:=by rw [if_neg (show ¬ (false=true) by decide)] at H;exact H
            clear H;have H:=H1;clear H1
            as_aux_lemma=>
             obtain rfl:=Option.some.inj H;go_wp2
             go_ret
             exact ⟨by first|rfl|(simp [errW_none,errW_some] <;> rfl)|(simp [*,errW_none,errW_some] <;> rfl),by repeat (first|(with_reducible first|exact HB.out|apply Qb|apply Qa|apply Qc)|exact HB.out)⟩

/-- THE ONE PURE STATEMENT of laws_FnCuts:yours. -/
def laws_FnCuts.Pure:Prop:=∀ (l0:List Int) (l1:List Int),l0.length≤maxLen→l0.length * 1≤140737488351232→(∀ x ∈ l0,(Lit.int .u8 x).wf=true)→l1.length≤maxLen→l1.length * 1≤140737488351232→(∀ x ∈ l1,(Lit.int .u8 x).wf=true)→∃ k,laws_FnCuts.f k l0 l1=some true
theorem laws_FnCuts.walk (P:laws_FnCuts.Pure) (a0:Option Addr) (len0 cap0:Nat) (z0:List Int) (a1:Option Addr) (len1 cap1:Nat) (z1:List Int) (w:World) (w0:(a0=none∧len0=0∧cap0=0∧z0=[])∨∃ x,a0=some x∧len0≤cap0∧cap0≤maxLen∧z0.length=cap0∧(∀ i,i<z0.length→w.cell? (x.add i)=some (.int .u8 (z0.getD i 0)))∧∀ n ∈ z0,(Lit.int .u8 n).wf=true) (y0:len0 * 1≤140737488351232) (w1:(a1=none∧len1=0∧cap1=0∧z1=[])∨∃ x,a1=some x∧len1≤cap1∧cap1≤maxLen∧z1.length=cap1∧(∀ i,i<z1.length→w.cell? (x.add i)=some (.int .u8 (z1.getD i 0)))∧∀ n ∈ z1,(Lit.int .u8 n).wf=true) (y1:len1 * 1≤140737488351232) :
    Calls Try.prog 14 #[.slice a0 len0 cap0,.slice a1 len1 cap1] w fun e w'=>e= .returned (.bool true)∧Below w.heap.size w w':=by
  obtain ⟨l0,rfl,hr0,hm0,hw0,hc0⟩:=ReadsInt.ofRowC w0;obtain ⟨l1,rfl,hr1,hm1,hw1,hc1⟩:=ReadsInt.ofRowC w1;obtain ⟨k,h⟩:=P l0 l1 hm0 y0 hw0 hm1 y1 hw1;refine (laws_FnCuts.calls k _ _ l0 _ _ l1 true w (Kd.C_of_reads (d:=(0:Int)) (h1:=fun _=>rfl) hr0) hc0 (Kd.C_of_reads (d:=(0:Int)) (h1:=fun _=>rfl) hr1) hc1 h).mono ?_
  rintro e w' ⟨rfl,hd⟩
  exact ⟨rfl,hd⟩
end Go.Proofs.Ytpagpbamdpllnaa.Print
namespace Go.Proofs.Ytpagpbamdpllnaa.Pure
open Go.RowKit Go.Proofs.Ytpagpbamdpllnaa.Print Go.Proofs.YtpagpbamdpllnaaW.PrintWords Go.Proofs.YtpagpbamdpllnaaW.PrintLast Go.Proofs.YtpagpbamdpllnaaW.PrintMore

theorem Ev.of_eq {α : Type} {g : Nat → Option α} {r : α} (h : ∀ k, g k = some r) : Ev g r := ⟨0, fun k _ => h k⟩
theorem Ev.bind0 {α β : Type} {o : Option α} {f : Nat → α → Option β} {a : α} {r : β} (h : o = some a) (k : Ev (fun n => f n a) r) : Ev (fun n => o.bind (f n)) r := by
  subst h; exact k
theorem Ev.pos {α : Type} {c : Prop} [Decidable c] {g f : Nat → Option α} {r : α} (h : c) (k : Ev g r) : Ev (fun n => if c then g n else f n) r := by
  simpa only [if_pos h] using k
theorem Ev.neg {α : Type} {c : Prop} [Decidable c] {g f : Nat → Option α} {r : α} (h : ¬ c) (k : Ev f r) : Ev (fun n => if c then g n else f n) r := by
  simpa only [if_neg h] using k
theorem Ev.ite {α : Type} {c : Prop} [Decidable c] {g f : Nat → Option α} {r : α} (h : c → Ev g r) (k : ¬ c → Ev f r) : Ev (fun n => if c then g n else f n) r := by
  by_cases hc : c
  · exact Ev.pos hc (h hc)
  · exact Ev.neg hc (k hc)
theorem Ev.step0 {α : Type} {g f : Nat → Option α} {r : α} (k : Ev f r) (h : ∀ k, g (k + 1) = f k) : Ev g r := Ev.step h k
theorem Ev.to {α : Type} {g : Nat → Option α} {r s : α} (k : Ev g r) (h : r = s) : Ev g s := h ▸ k
theorem ev_up {β : Type} (n : Nat) (g : Nat → Nat → Option β) (r : β) (I : Nat → Prop) (h0 : I 0)
    (hend : I n → Ev (fun k => g k n) r) (hstep : ∀ i, i < n → I i → (I (i + 1) → Ev (fun k => g k (i + 1)) r) → Ev (fun k => g k i) r) : Ev (fun k => g k 0) r := by
  have h : ∀ d i, i + d = n → I i → Ev (fun k => g k i) r := by
    intro d
    induction d with
    | zero => intro i hi hI; obtain rfl : i = n := by omega
              exact hend hI
    | succ d ih => intro i hi hI; exact hstep i (by omega) hI fun hI' => ih (i + 1) (by omega) hI'
  exact h n 0 (by omega) h0
theorem w64 {x : Int} (h1 : -9223372036854775808 ≤ x) (h2 : x < 9223372036854775808) : wrap64 x = x := by unfold wrap64; omega
theorem rd_nat (l : List Int) (i : Nat) (h : i < l.length) : rd l (i : Int) = l[i] := by simp [rd, h]
theorem toNat_nat (i : Nat) : ((i : Int)).toNat = i := Int.toNat_natCast i
theorem lt_len {α : Type} {l : List α} {i : Nat} (h : i < l.length) : (i : Int) < (l.length : Int) := by omega
def allIn (l : List Int) (lo hi : Int) : Bool := l.all fun x => decide (lo ≤ x) && decide (x ≤ hi)
theorem allIn_iff (l : List Int) (lo hi : Int) : allIn l lo hi = true ↔ ∀ x ∈ l, lo ≤ x ∧ x ≤ hi := by
  simp [allIn, List.all_eq_true]
theorem all_take_false {α : Type} (l : List α) (p : α → Bool) (i : Nat) (h : i < l.length) (hp : p l[i] = false) : l.all p = false := by
  rw [List.all_eq_false]; exact ⟨l[i], List.getElem_mem h, by simp [hp]⟩
theorem all_take_succ {α : Type} (l : List α) (p : α → Bool) (i : Nat) (h : i < l.length) (ht : (l.take i).all p = true) (hp : p l[i] = true) : (l.take (i + 1)).all p = true := by
  rw [List.take_succ_eq_append_getElem h, List.all_append, ht]; simp [hp]
theorem Ev.succ {α : Type} {g : Nat → Option α} {r : α} (h : Ev (fun k => g (k + 1)) r) : Ev g r := Ev.step (fun _ => rfl) h
theorem exists_nat_of_nonneg {x : Int} (h : 0 ≤ x) : ∃ n : Nat, x = n := ⟨x.toNat, by omega⟩

def bytesOk (l : List Int) : Prop := ∀ x ∈ l, 0 ≤ x ∧ x ≤ 255
theorem wf_u8 {x : Int} (h : (Lit.int .u8 x).wf = true) : 0 ≤ x ∧ x ≤ 255 := by
  have h' : decide (IntKind.u8.min ≤ x) && decide (x ≤ IntKind.u8.max) := h
  simp only [Bool.and_eq_true, decide_eq_true_eq] at h'
  have e1 : IntKind.u8.min = 0 := by decide
  have e2 : IntKind.u8.max = 255 := by decide
  omega
theorem bytesOk_of (l : List Int) (h : ∀ x ∈ l, (Lit.int .u8 x).wf = true) : bytesOk l := fun x hx => wf_u8 (h x hx)
theorem u64_range (x : Int) : 0 ≤ IntKind.u64.wrap x ∧ IntKind.u64.wrap x < 18446744073709551616 := by
  have e : IntKind.u64.wrap x = x % 18446744073709551616 := by simp [IntKind.wrap, IntKind.bits, IntKind.signed]
  rw [e]; omega
theorem and_255 (x : Int) (h0 : 0 ≤ x) (h1 : x < 18446744073709551616) : 0 ≤ Go.bits .and .u64 x 255 ∧ Go.bits .and .u64 x 255 ≤ 255 := by
  obtain ⟨n, rfl⟩ := exists_nat_of_nonneg h0
  have e : Go.bits .and .u64 (n : Int) ((255 : Nat) : Int) = ((n &&& 255 : Nat) : Int) := u64_and_nat n 255 (by omega) (by omega)
  have h2 : n &&& 255 ≤ 255 := Nat.and_le_right
  have e' : Go.bits .and .u64 (n : Int) 255 = ((n &&& 255 : Nat) : Int) := e
  rw [e']; omega
theorem rd_mem_or (l : List Int) (i : Int) (h0 : 0 ≤ i) (h : i < l.length) : rd l i ∈ l := by
  obtain ⟨n, rfl⟩ := exists_nat_of_nonneg h0
  rw [rd_nat l n (by omega)]; exact List.getElem_mem _

theorem cur_next (l : List Int) (a s : Int) (hl : bytesOk l) (ha : 0 ≤ a ∧ a ≤ 4611686018427387904) :
    ∃ b s', spec_l1Cur_next.f l a s = some (b, a + 1, s') ∧ 0 ≤ b ∧ b ≤ 255 := by
  have hmask : ∀ y : Int, 0 ≤ wrap64 (Go.bits .and .u64 ((IntKind.u64.wrap y) / 1099511627776) 255) ∧ wrap64 (Go.bits .and .u64 ((IntKind.u64.wrap y) / 1099511627776) 255) ≤ 255 := fun y => by
    have h1 := u64_range y
    have h2 := and_255 ((IntKind.u64.wrap y) / 1099511627776) (by omega) (by omega)
    rw [w64 (by omega) (by omega)]; exact h2
  unfold spec_l1Cur_next.f
  rw [w64 (x := a + 1) (by omega) (by omega)]
  by_cases h1 : a < (l.length : Int)
  · have hb := hl _ (rd_mem_or l a ha.1 h1)
    rw [if_pos h1, if_pos ha.1]
    by_cases h2 : a + 1 ≤ (l.length : Int)
    · rw [if_pos h2]; exact ⟨_, _, rfl, by rw [w64 (by omega) (by omega)]; exact hb⟩
    · rw [if_neg h2]; exact ⟨_, _, rfl, hmask _⟩
  · rw [if_neg h1]
    by_cases h2 : a + 1 ≤ (l.length : Int)
    · rw [if_pos h2]; exact ⟨_, _, rfl, by omega⟩
    · rw [if_neg h2]; exact ⟨_, _, rfl, hmask _⟩

theorem cur_pick (l : List Int) (a s n : Int) (hl : bytesOk l) (ha : 0 ≤ a ∧ a ≤ 4611686018427387900) :
    ∃ r a' s', spec_l1Cur_pick.f l a s n = some (r, a', s') ∧ 0 ≤ r ∧ (r < n ∨ n ≤ 1 ∧ r = 0) ∧ a ≤ a' ∧ a' ≤ a + 2 := by
  unfold spec_l1Cur_pick.f
  by_cases h : n ≤ 1
  · rw [if_pos h]; exact ⟨0, a, s, rfl, by omega, .inr ⟨h, rfl⟩, by omega, by omega⟩
  · rw [if_neg h]
    obtain ⟨b, s1, e1, hb⟩ := cur_next l a s hl (by omega)
    rw [e1]; simp only [Option.bind_some]
    by_cases h2 : n > 200
    · rw [if_pos h2]
      obtain ⟨c, s2, e2, hc⟩ := cur_next l (a + 1) s1 hl (by omega)
      rw [e2]; simp only [Option.bind_some]; rw [if_neg (by omega), w64 (x := b * 256) (by omega) (by omega), w64 (by omega) (by omega)]
      exact ⟨_, _, _, rfl, Int.tmod_nonneg _ (by omega), .inl (Int.tmod_lt_of_pos _ (by omega)), by omega, by omega⟩
    · rw [if_neg h2, if_neg (by omega)]
      exact ⟨_, _, _, rfl, Int.tmod_nonneg _ (by omega), .inl (Int.tmod_lt_of_pos _ (by omega)), by omega, by omega⟩

theorem cur_one (l : List Int) (a s n : Int) (hl : bytesOk l) (ha : 0 ≤ a ∧ a ≤ 4611686018427387900) :
    ∃ r a' s', spec_l1Cur_one.f l a s n = some (r, a', s') ∧ a ≤ a' ∧ a' ≤ a + 2 := by
  unfold spec_l1Cur_one.f
  obtain ⟨r, a', s', e, h0, h1, h2, h3⟩ := cur_pick l a s n hl ha
  rw [e]; exact ⟨_, _, _, rfl, h2, h3⟩

theorem cur_among (l : List Int) (a s : Int) (l1 : List Int) (hl : bytesOk l) (ha : 0 ≤ a ∧ a ≤ 4611686018427387900) (h1 : 0 < l1.length) :
    ∃ r a' s', spec_l1Cur_among.f l a s l1 = some (r, a', s') ∧ r ∈ l1 ∧ a ≤ a' ∧ a' ≤ a + 2 := by
  unfold spec_l1Cur_among.f
  obtain ⟨r, a', s', e, h2, h3, h4, h5⟩ := cur_pick l a s (l1.length : Int) hl ha
  have h6 : r < (l1.length : Int) := by omega
  rw [e]; simp only [Option.bind_some]; rw [if_pos h2, if_pos h6]
  exact ⟨_, _, _, rfl, rd_mem_or l1 r h2 h6, h4, h5⟩

theorem spec_l1In_eq (n lo hi : Int) : spec_l1In.f n lo hi = some (decide (lo ≤ n) && decide (n ≤ hi)) := by
  unfold spec_l1In.f
  by_cases h : n ≥ lo
  · rw [if_pos h, decide_eq_true (show lo ≤ n from h)]; simp
  · rw [if_neg h, decide_eq_false (show ¬ lo ≤ n from h)]; simp

theorem impl_within_eq (n lo hi : Int) : impl_within.f n lo hi = some (decide (lo ≤ n) && decide (n ≤ hi)) := by
  unfold impl_within.f
  by_cases h : n ≥ lo
  · rw [if_pos h, decide_eq_true (show lo ≤ n from h)]; simp
  · rw [if_neg h, decide_eq_false (show ¬ lo ≤ n from h)]; simp

theorem spec_l1All_ev (l : List Int) (lo hi : Int) (hl : l.length < 4611686018427387904) : Ev (fun k => spec_l1All.f k l lo hi) (allIn l lo hi) := by
  unfold spec_l1All.f
  refine ev_up l.length (fun k i => spec_l1All.l0 k lo hi l (l.length : Int) (i : Int)) _ (fun i => allIn (l.take i) lo hi = true) (by simp [allIn]) ?_ ?_
  · intro hI
    refine Ev.step0 (Ev.of_eq fun _ => rfl) fun k => ?_
    simp only [spec_l1All.l0]; rw [if_neg (by omega)]
    rw [List.take_length] at hI; rw [hI]
  · intro i hi' hI hn
    cases hb : (decide (lo ≤ l[i]) && decide (l[i] ≤ hi)) with
    | true =>
      refine Ev.step0 (hn (all_take_succ l _ i hi' hI hb)) fun k => ?_
      simp only [spec_l1All.l0]; rw [if_pos (lt_len hi'), if_pos (by omega), if_pos (lt_len hi'), rd_nat l i hi', spec_l1In_eq, hb]
      simp only [Option.bind_some, if_true]; rw [w64 (by omega) (by omega)]; rfl
    | false =>
      refine Ev.step0 (Ev.of_eq fun _ => rfl) fun k => ?_
      simp only [spec_l1All.l0]; rw [if_pos (lt_len hi'), if_pos (by omega), if_pos (lt_len hi'), rd_nat l i hi', spec_l1In_eq, hb]
      simp only [Option.bind_some]; rw [if_neg (by decide)]
      rw [show allIn l lo hi = false from all_take_false l _ i hi' hb]

theorem impl_allWithin_ev (l : List Int) (lo hi : Int) (hl : l.length < 4611686018427387904) : Ev (fun k => impl_allWithin.f k l lo hi) (allIn l lo hi) := by
  unfold impl_allWithin.f sl0_ContainsFunc.f sl2_IndexFunc.f
  have key : ∃ j : Int, decide (j ≥ 0) = !(allIn l lo hi) ∧ Ev (fun k => sl2_IndexFunc.l0 k l (l.length : Int) 0 lo hi) j := by
    have hc : ∀ x : Int, impl_allWithin_1.f x lo hi = some (!(decide (lo ≤ x) && decide (x ≤ hi))) := fun x => by
      unfold impl_allWithin_1.f; rw [impl_within_eq]; rfl
    cases ha : allIn l lo hi with
    | true =>
      refine ⟨-1, by decide, ?_⟩
      refine ev_up l.length (fun k i => sl2_IndexFunc.l0 k l (l.length : Int) (i : Int) lo hi) _ (fun _ => True) trivial ?_ ?_
      · intro _
        refine Ev.step0 (Ev.of_eq fun _ => rfl) fun k => ?_
        simp only [sl2_IndexFunc.l0]; rw [if_neg (by omega)]
      · intro i hi' _ hn
        have hb := (allIn_iff l lo hi).mp ha l[i] (List.getElem_mem hi')
        refine Ev.step0 (hn trivial) fun k => ?_
        simp only [sl2_IndexFunc.l0]; rw [if_pos (lt_len hi'), if_pos (by omega), if_pos (lt_len hi'), rd_nat l i hi', hc, decide_eq_true hb.1, decide_eq_true hb.2]
        simp only [Option.bind_some]; rw [if_neg (by decide), w64 (by omega) (by omega)]; rfl
    | false =>
      have : ∃ i : Nat, i < l.length ∧ Ev (fun k => sl2_IndexFunc.l0 k l (l.length : Int) 0 lo hi) (i : Int) := by
        obtain ⟨i, hi', hp, hlt⟩ : ∃ i : Nat, ∃ h : i < l.length, (decide (lo ≤ l[i]) && decide (l[i] ≤ hi)) = false ∧ ∀ j, ∀ hj : j < i, (decide (lo ≤ l[j]) && decide (l[j] ≤ hi)) = true := by
          have h1 : ∃ i : Nat, ∃ h : i < l.length, (decide (lo ≤ l[i]) && decide (l[i] ≤ hi)) = false := by
            unfold allIn at ha
            rw [List.all_eq_false] at ha
            obtain ⟨x, hx, hp⟩ := ha
            obtain ⟨i, hi', rfl⟩ := List.getElem_of_mem hx
            exact ⟨i, hi', by simpa using hp⟩
          obtain ⟨m, hm, hmin⟩ := exists_least h1
          obtain ⟨hm1, hm2⟩ := hm
          refine ⟨m, hm1, hm2, fun j hj => ?_⟩
          cases hq : (decide (lo ≤ l[j]) && decide (l[j] ≤ hi)) with
          | true => rfl
          | false => have := hmin j ⟨by omega, hq⟩; omega
        refine ⟨i, hi', ?_⟩
        refine ev_up i (fun k i => sl2_IndexFunc.l0 k l (l.length : Int) (i : Int) lo hi) _ (fun _ => True) trivial ?_ ?_
        · intro _
          refine Ev.step0 (Ev.of_eq fun _ => rfl) fun k => ?_
          simp only [sl2_IndexFunc.l0]; rw [if_pos (lt_len hi'), if_pos (by omega), if_pos (lt_len hi'), rd_nat l i hi', hc, hp]
          simp
        · intro j hj _ hn
          have hj' : j < l.length := by omega
          refine Ev.step0 (hn trivial) fun k => ?_
          simp only [sl2_IndexFunc.l0]; rw [if_pos (lt_len hj'), if_pos (by omega), if_pos (lt_len hj'), rd_nat l j hj', hc, hlt j hj]
          simp only [Option.bind_some]; rw [if_neg (by decide), w64 (by omega) (by omega)]; rfl
      obtain ⟨i, _, hi2⟩ := this
      exact ⟨i, by simp, hi2⟩
  obtain ⟨j, hj, hev⟩ := key
  refine Ev.to (Ev.bind (Ev.bind hev (Ev.now _)) (Ev.now _)) ?_
  rw [hj]; simp

def lowNum (a b : Int) : Int := if b < 0 then Int.tdiv (-a) (Int.gcd a b) else Int.tdiv a (Int.gcd a b)
def lowDen (a b : Int) : Int := if b < 0 then Int.tdiv (-b) (Int.gcd a b) else Int.tdiv b (Int.gcd a b)
def goodFrac (a b : Int) : Bool := decide (-1000000000 ≤ a) && decide (a ≤ 1000000000) && (decide (1 ≤ b) && decide (b ≤ 1000000000)) && decide (Int.gcd a b = 1)

theorem mn_min (a b : Int) : mn a b = min a b := by unfold mn; split <;> omega
theorem w64n {i n : Nat} (h : i < n) (hn : n ≤ 4611686018427387904) : wrap64 ((i : Int) + 1) = ((i + 1 : Nat) : Int) := by rw [w64 (by omega) (by omega)]; rfl
theorem ev_indexFunc {α : Type} (l : List α) (rdx : Int → α) (hr : ∀ (i : Nat) (h : i < l.length), rdx (i : Int) = l[i]) (c : Nat → α → Option Bool) (p : α → Bool)
    (hc : ∀ x ∈ l, Ev (fun k => c k x) (p x)) (g : Nat → Int → Option Int)
    (hg : ∀ k i, g (k + 1) i = if i < (l.length : Int) then (if 0 ≤ i then (if i < (l.length : Int) then ((c k (rdx i)).bind fun t => if t = true then some i else g k (wrap64 (i + 1))) else none) else none) else some (-1))
    (hl : l.length ≤ 4611686018427387904) : ∃ j : Int, decide (j ≥ 0) = l.any p ∧ Ev (fun k => g k 0) j := by
  have gen : ∀ (d i : Nat), i + d = l.length → ∃ j : Int, decide (j ≥ 0) = (l.drop i).any p ∧ Ev (fun k => g k (i : Int)) j := by
    intro d
    induction d with
    | zero =>
      intro i hi
      refine ⟨-1, by rw [List.drop_of_length_le (by omega)]; rfl, Ev.step0 (Ev.of_eq fun _ => rfl) fun k => ?_⟩
      rw [hg, if_neg (by omega)]
    | succ d ih =>
      intro i hi
      have hi' : i < l.length := by omega
      have hd : (l.drop i).any p = (p l[i] || (l.drop (i + 1)).any p) := by rw [List.drop_eq_getElem_cons hi', List.any_cons]
      have hcx := hc l[i] (List.getElem_mem hi')
      cases hp : p l[i] with
      | true =>
        refine ⟨i, by rw [hd, hp]; simp, Ev.step (fun k => hg k _) (Ev.pos (by omega) (Ev.pos (by omega) (Ev.pos (by omega) ?_)))⟩
        rw [hr i hi']
        exact Ev.bind hcx (Ev.pos hp (Ev.now _))
      | false =>
        obtain ⟨j, hj, hev⟩ := ih (i + 1) (by omega)
        refine ⟨j, by rw [hd, hp, hj]; rfl, Ev.step (fun k => hg k _) (Ev.pos (by omega) (Ev.pos (by omega) (Ev.pos (by omega) ?_)))⟩
        rw [hr i hi', w64 (by omega) (by omega)]
        exact Ev.bind hcx (Ev.neg (by rw [hp]; simp) hev)
  have := gen l.length 0 (by omega)
  simpa using this
theorem any_not_all {α : Type} (l : List α) (p : α → Bool) : l.any (fun x => !p x) = !(l.all p) := by
  induction l with
  | nil => rfl
  | cons a l ih => simp [ih]
theorem spec_l1Has_ev (l : List Int) (a : Int) (hl : l.length ≤ 4611686018427387904) : Ev (fun k => spec_l1Has.f k l a) (decide (a ∈ l)) := by
  unfold spec_l1Has.f
  have gen : ∀ (d i : Nat), i + d = l.length → Ev (fun k => spec_l1Has.l0 k a l (l.length : Int) (i : Int)) (decide (a ∈ l.drop i)) := by
    intro d
    induction d with
    | zero =>
      intro i hi
      rw [List.drop_of_length_le (by omega)]
      refine Ev.succ ?_
      simp only [spec_l1Has.l0]; exact Ev.neg (by omega) (Ev.now _)
    | succ d ih =>
      intro i hi
      have hi' : i < l.length := by omega
      rw [List.drop_eq_getElem_cons hi']
      refine Ev.succ ?_
      simp only [spec_l1Has.l0]
      refine Ev.pos (by omega) (Ev.pos (by omega) (Ev.pos (by omega) ?_))
      rw [rd_nat l i hi', w64 (by omega) (by omega)]
      refine Ev.ite (fun h => ?_) (fun h => ?_)
      · rw [h]; simpa using Ev.now true
      · have := ih (i + 1) (by omega)
        have e : decide (a ∈ l[i] :: l.drop (i + 1)) = decide (a ∈ l.drop (i + 1)) := by
          rw [decide_eq_decide, List.mem_cons]; constructor
          · rintro (h2 | h2)
            · exact absurd h2.symm h
            · exact h2
          · exact .inr
        rw [e]; exact this
  simpa using gen l.length 0 (by omega)

def wayOf (a b c d : Int) : Int := if a = c then ((b - d).natAbs : Int) else 3 * ((a - c).natAbs : Int) + (if 40 - (b + d) < b + d then 40 - (b + d) else b + d)
def spotOk (a b : Int) : Bool := (decide (0 ≤ a) && decide (a ≤ 9)) && (decide (0 ≤ b) && decide (b ≤ 20))

theorem laws_sameInts_ev (a b : List Int) (hl : a.length ≤ 4611686018427387904) : Ev (fun k => laws_sameInts.f k a b) (decide (a = b)) := by
  unfold laws_sameInts.f
  refine Ev.ite (fun h => ?_) (fun h => ?_)
  · have hlen : a.length = b.length := by omega
    have gen : ∀ (d i : Nat), i + d = a.length → Ev (fun k => laws_sameInts.l0 k a b (a.length : Int) (i : Int)) (decide (a.drop i = b.drop i)) := by
      intro d
      induction d with
      | zero =>
        intro i hi
        rw [List.drop_of_length_le (by omega), List.drop_of_length_le (by omega)]
        refine Ev.succ ?_
        simp only [laws_sameInts.l0]; exact Ev.neg (by omega) (by simpa using Ev.now true)
      | succ d ih =>
        intro i hi
        have hi' : i < a.length := by omega
        have hi2 : i < b.length := by omega
        rw [List.drop_eq_getElem_cons hi', List.drop_eq_getElem_cons hi2]
        refine Ev.succ ?_
        simp only [laws_sameInts.l0]
        refine Ev.pos (by omega) (Ev.pos (by omega) (Ev.pos (by omega) (Ev.pos (by omega) ?_)))
        rw [rd_nat a i hi', rd_nat b i hi2, w64n hi' (by omega)]
        refine Ev.ite (fun h => ?_) (fun h => ?_)
        · have e : decide (a[i] :: a.drop (i + 1) = b[i] :: b.drop (i + 1)) = decide (a.drop (i + 1) = b.drop (i + 1)) := by
            rw [decide_eq_decide, h]; exact ⟨fun h => (List.cons.inj h).2, fun h => by rw [h]⟩
          rw [e]; exact ih (i + 1) (by omega)
        · have e : decide (a[i] :: a.drop (i + 1) = b[i] :: b.drop (i + 1)) = false := by
            rw [decide_eq_false_iff_not]; intro h2; injection h2 with h3; exact h h3
          rw [e]; exact Ev.now _
    simpa using gen a.length 0 (by omega)
  · have e : decide (a = b) = false := by rw [decide_eq_false_iff_not]; rintro rfl; exact h rfl
    rw [e]; exact Ev.now _
theorem laws_same_ev (a : List Int) (hl : a.length ≤ 4611686018427387904) : Ev (fun k => laws_sameInts.f k a a) true := Ev.to (laws_sameInts_ev a a hl) (by simp)

def jn (E : List (Nat × Nat)) (T : Nat → Bool) : Nat → Nat → Prop
  | 0, u => T u = true
  | n + 1, u => T u = true ∨ ∃ v, ((u, v) ∈ E ∨ (v, u) ∈ E) ∧ jn E T n v
def Jn (E : List (Nat × Nat)) (T : Nat → Bool) (u : Nat) : Prop := ∃ n, jn E T n u
theorem Jn.base {E : List (Nat × Nat)} {T : Nat → Bool} {u : Nat} (h : T u = true) : Jn E T u := ⟨0, h⟩
theorem Jn.step {E : List (Nat × Nat)} {T : Nat → Bool} {u v : Nat} (h : (u, v) ∈ E ∨ (v, u) ∈ E) (k : Jn E T v) : Jn E T u := by
  obtain ⟨n, hn⟩ := k; exact ⟨n + 1, .inr ⟨v, h, hn⟩⟩
theorem Jn.rule {E : List (Nat × Nat)} {T : Nat → Bool} {P : Nat → Prop} (hb : ∀ u, T u = true → P u)
    (hs : ∀ u v, ((u, v) ∈ E ∨ (v, u) ∈ E) → Jn E T v → P v → P u) {u : Nat} (h : Jn E T u) : P u := by
  obtain ⟨n, hn⟩ := h
  induction n generalizing u with
  | zero => exact hb u hn
  | succ n ih =>
    rcases hn with h | ⟨v, h, hv⟩
    · exact hb u h
    · exact hs u v h ⟨n, hv⟩ (ih hv)
theorem Jn.trans {E E' : List (Nat × Nat)} {T T' : Nat → Bool} {u : Nat} (h : Jn E T u) (k : ∀ x, T x = true → Jn E' T' x) (hE : ∀ e ∈ E, e ∈ E') : Jn E' T' u :=
  h.rule k fun _ _ he _ p => Jn.step (he.imp (hE _) (hE _)) p
theorem Jn.cross {E : List (Nat × Nat)} {J : Nat → Bool} {v : Nat} (h : Jn E J v) : J v = false →
    ∃ e ∈ E, ∃ x s, (e = (x, s) ∨ e = (s, x)) ∧ J x = false ∧ J s = true ∧ Jn (E.erase e) (fun u => decide (u = v)) x := by
  refine h.rule (P := fun v => J v = false → ∃ e ∈ E, ∃ x s, (e = (x, s) ∨ e = (s, x)) ∧ J x = false ∧ J s = true ∧ Jn (E.erase e) (fun u => decide (u = v)) x) (fun u hu hv => absurd hu (by simp [hv])) ?_
  intro u w hf hw ih hu
  cases hJ : J w with
  | true =>
    have hx : Jn (E.erase ((u, w) : Nat × Nat)) (fun y => decide (y = u)) u := Jn.base (by simp)
    have hx' : Jn (E.erase ((w, u) : Nat × Nat)) (fun y => decide (y = u)) u := Jn.base (by simp)
    rcases hf with hf | hf
    · exact ⟨_, hf, u, w, .inl rfl, hu, hJ, hx⟩
    · exact ⟨_, hf, u, w, .inr rfl, hu, hJ, hx'⟩
  | false =>
    obtain ⟨e, he, x, s, hxs, hx, hs, hj⟩ := ih hJ
    refine ⟨e, he, x, s, hxs, hx, hs, hj.trans (fun y hy => ?_) (fun _ h => h)⟩
    have hyw : y = w := by simpa using hy
    subst hyw
    have hne : ∀ f : Nat × Nat, f = (u, y) ∨ f = (y, u) → f ≠ e := by
      rintro f hf1 rfl
      rcases hf1 with h1 | h1 <;> rcases hxs with h2 | h2 <;> rw [h1] at h2 <;> injection h2 with h3 h4 <;> subst h3 <;> subst h4 <;> simp_all
    refine Jn.step (v := u) ?_ (Jn.base (by simp))
    rcases hf with hf | hf
    · exact .inr ((List.mem_erase_of_ne (hne _ (.inl rfl))).mpr hf)
    · exact .inl ((List.mem_erase_of_ne (hne _ (.inr rfl))).mpr hf)
theorem Jn.move {E : List (Nat × Nat)} {J : Nat → Bool} {v x s : Nat} {e : Nat × Nat} (hxs : e = (x, s) ∨ e = (s, x)) (hs : J s = true)
    (hj : Jn (E.erase e) (fun u => decide (u = v)) x) {u : Nat} (h : Jn E J u) : Jn (E.erase e) (fun y => J y || decide (y = v)) u := by
  have hx : Jn (E.erase e) (fun y => J y || decide (y = v)) x := hj.trans (fun y hy => Jn.base (by simp at hy; simp [hy])) (fun _ h => h)
  have hss : Jn (E.erase e) (fun y => J y || decide (y = v)) s := Jn.base (by simp [hs])
  refine h.rule (P := fun u => Jn (E.erase e) (fun y => J y || decide (y = v)) u) (fun u hu => Jn.base (by simp [hu])) ?_
  intro u w hf _ ih
  by_cases h1 : (u, w) = e
  · rcases hxs with h2 | h2 <;> rw [h2] at h1 <;> injection h1 with h3 h4
    · rw [h3]; exact hx
    · rw [h3]; exact hss
  · by_cases h2 : (w, u) = e
    · rcases hxs with h3 | h3 <;> rw [h3] at h2 <;> injection h2 with h4 h5
      · rw [h5]; exact hss
      · rw [h5]; exact hx
    · refine Jn.step (v := w) ?_ ih
      rcases hf with hf | hf
      · exact .inl ((List.mem_erase_of_ne h1).mpr hf)
      · exact .inr ((List.mem_erase_of_ne h2).mpr hf)
def sumW (w : Nat → Nat → Int) (E : List (Nat × Nat)) : Int := (E.map fun e => w e.1 e.2).sum
def nearUp (w : Nat → Nat → Int) (J : Nat → Bool) (i : Nat) : Nat → Option Nat
  | 0 => none
  | k + 1 => match nearUp w J i k with
    | none => if J k = true then some k else none
    | some m => if J k = true ∧ w i k < w i m then some k else some m
def pickUp (w : Nat → Nat → Int) (J : Nat → Bool) (n : Nat) : Nat → Option (Nat × Nat)
  | 0 => none
  | i + 1 => match pickUp w J n i with
    | none => if J i = true then none else (nearUp w J i n).map fun m => (i, m)
    | some p => if J i = true then some p else match nearUp w J i n with
      | none => some p
      | some m => if w i m < w p.1 p.2 then some (i, m) else some p

def updP (w : Nat → Nat → Int) (J : Nat → Bool) (i : Nat) (p : Option (Nat × Nat)) (m : Option Nat) : Option (Nat × Nat) :=
  if J i = true then p else match m with
    | none => p
    | some m => match p with
      | none => some (i, m)
      | some q => if w i m < w q.1 q.2 then some (i, m) else some q
def jd (J : List Bool) (m : Nat) : Bool := rdOf false J (m : Int)
def primSt (w : Nat → Nat → Int) (n : Nat) : Nat → List Int × Int × List Bool
  | 0 => (List.replicate n (-1), 0, (List.replicate n false).set 0 true)
  | t + 1 => match pickUp w (jd (primSt w n t).2.2) n n with
    | none => primSt w n t
    | some q => ((primSt w n t).1.set q.1 (q.2 : Int), (primSt w n t).2.1 + w q.1 q.2, (primSt w n t).2.2.set q.1 true)
def sumTo (f : Nat → Int) : Nat → Int
  | 0 => 0
  | n + 1 => sumTo f n + f n
structure PrimOk (w : Nat → Nat → Int) (n : Nat) (E : List (Nat × Nat)) (t : Nat) (s : List Int × Int × List Bool) : Prop where
  l1 : s.1.length = n
  l2 : s.2.2.length = n
  cnt : s.2.2.count true = t + 1
  j0 : jd s.2.2 0 = true
  o0 : rd s.1 0 = -1
  up : ∀ i, i < n → i ≠ 0 → jd s.2.2 i = true → 0 ≤ rd s.1 i ∧ rd s.1 i < n ∧ rd s.1 i ≠ i
  all : ∀ i, i < n → -1 ≤ rd s.1 i ∧ rd s.1 i < n
  sum : s.2.1 = sumTo (fun i => if jd s.2.2 i = true ∧ i ≠ 0 then w i (rd s.1 i).toNat else 0) n
  pot : ∃ E', (∀ e ∈ E', e ∈ E) ∧ sumW w E' + s.2.1 ≤ sumW w E ∧ ∀ u, u < n → Jn E' (jd s.2.2) u
theorem slices_Repeat_one (x : Int) (n : Nat) (h : n ≤ 1048576) : slices_Repeat_int_int.f [x] (n : Int) = some (List.replicate n x) := by
  simp only [slices_Repeat_int_int.f]; rw [if_pos (by omega), toNat_nat]

def flowOk (flow : List Int) : Bool := decide (1 ≤ (flow.length : Int)) && decide ((flow.length : Int) ≤ 8) && allIn flow 1 30
def countsOk (flow counts : List Int) : Bool := flowOk flow && (decide ((counts.length : Int) = (flow.length : Int)) && (allIn counts 1 40 && decide (counts.sum ≤ 40)))
def gn (f c : Int) : Int := lowNum f (c * (c + 1))
def gd (f c : Int) : Int := lowDen f (c * (c + 1))
def bestUp (lt : Nat → Nat → Bool) : Nat → Nat
  | 0 => 0
  | i + 1 => if lt (bestUp lt i) i = true then i else bestUp lt i
def gainLt (flow counts : List Int) (b i : Nat) : Bool := decide (gn flow[b]! counts[b]! * gd flow[i]! counts[i]! < gn flow[i]! counts[i]! * gd flow[b]! counts[b]!)
def nextOf (flow counts : List Int) : Nat := bestUp (gainLt flow counts) flow.length

def bump (flow counts : List Int) : List Int := counts.set (nextOf flow counts) (counts[nextOf flow counts]! + 1)
def shareUp (flow : List Int) : Nat → List Int
  | 0 => List.replicate flow.length 1
  | i + 1 => bump flow (shareUp flow i)
def shareOf (flow : List Int) (places : Int) : List Int := shareUp flow (places - flow.length).toNat
def kindsOk (flow : List Int) (places : Int) : Bool := flowOk flow && (decide ((flow.length : Int) ≤ places) && decide (places ≤ 40))

def upFrom (k : Int) (n : Nat) : List Int := (List.range n).map fun (j : Nat) => k + (j : Int)

theorem rdL_nat (l : List (List Int)) (i : Nat) (h : i < l.length) : rd_L2 l (i : Int) = l[i] := by simp [rd_L2, h]
def sumLen (l : List (List Int)) : Nat := (l.map List.length).sum
def upRows (k : Int) : List (List Int) → List (List Int)
  | [] => []
  | r :: t => upFrom k r.length :: upRows (k + (r.length : Int)) t

def gainN (g : List Int) (c : Nat) : Int := if c = 0 then 0 else rd g ((c - 1 : Nat) : Int)
def okO (g : List Int) : Bool := decide (g.length ≤ 6) && allIn g (-1000) 1000
def bestTo (row g : List Int) (p : Nat) : Nat → Int
  | 0 => rd row (p : Int)
  | c + 1 => max (bestTo row g p c) (rd row ((p - (c + 1) : Nat) : Int) + gainN g (c + 1))
def rowNext (row g : List Int) (P : Nat) : List Int := (List.range (P + 1)).map fun p => bestTo row g p (min p g.length)
def rowAt (gs : List (List Int)) (P : Nat) : Nat → List Int
  | 0 => List.replicate (P + 1) 0
  | i + 1 => rowNext (rowAt gs P i) (gs.getD i []) P
def sumN (f : Nat → Int) : Nat → Int
  | 0 => 0
  | n + 1 => sumN f n + f n
theorem sumN_congr {f g : Nat → Int} {n : Nat} (h : ∀ i, i < n → f i = g i) : sumN f n = sumN g n := by
  induction n with
  | zero => rfl
  | succ n ih => simp only [sumN]; rw [ih fun i hi => h i (by omega), h n (by omega)]
theorem sumN_le {f g : Nat → Int} {n : Nat} (h : ∀ i, i < n → f i ≤ g i) : sumN f n ≤ sumN g n := by
  induction n with
  | zero => exact Int.le_refl _
  | succ n ih => simp only [sumN]; have := ih fun i hi => h i (by omega); have := h n (by omega); omega
structure Counts (gs : List (List Int)) (n : Nat) (d : Nat → Nat) : Prop where
  le : ∀ i, i < n → d i ≤ (gs.getD i []).length
def valN (gs : List (List Int)) (d : Nat → Nat) (n : Nat) : Int := sumN (fun i => gainN (gs.getD i []) (d i)) n
def plN (d : Nat → Nat) : Nat → Nat
  | 0 => 0
  | n + 1 => plN d n + d n
def gl (l : List S53) : List (List Int) := l.map (fun o => o.f0)
def offersOk (l : List S53) : Bool := decide (l.length ≤ 12) && l.all (fun o => okO o.f0)
def offered (l : List S53) (p : Int) : Bool := offersOk l && (decide (0 ≤ p) && decide (p ≤ 40))

def tabs (gs : List (List Int)) (P n : Nat) : List (List Int) := (List.range n).map (rowAt gs P)

def fits (p : Int × Int) : Int × Int × Bool := if goodFrac p.1 p.2 = true then (p.1, p.2, true) else (0, 0, false)
def bothGood (a b c d : Int) : Bool := goodFrac a b && goodFrac c d
def addF (a b c d : Int) : Int × Int × Bool := if bothGood a b c d = true then fits (lowNum (a * d + c * b) (b * d), lowDen (a * d + c * b) (b * d)) else (0, 0, false)
def subF (a b c d : Int) : Int × Int × Bool := if bothGood a b c d = true then fits (lowNum (a * d - c * b) (b * d), lowDen (a * d - c * b) (b * d)) else (0, 0, false)
def mulF (a b c d : Int) : Int × Int × Bool := if bothGood a b c d = true then fits (lowNum (a * c) (b * d), lowDen (a * c) (b * d)) else (0, 0, false)
def divF (a b c d : Int) : Int × Int × Bool := if bothGood a b c d = true ∧ c ≠ 0 then fits (lowNum (a * d) (b * c), lowDen (a * d) (b * c)) else (0, 0, false)
def lessF (a b c d : Int) : Bool × Bool := if bothGood a b c d = true then (decide (a * d < c * b), true) else (false, false)
def floorF (a b : Int) : Int × Bool := if goodFrac a b = true then (a / b, true) else (0, false)

def sumF : List (Int × Int) → Int × Int → Int × Int × Bool
  | [], s => (s.1, s.2, true)
  | x :: l, s => if (addF s.1 s.2 x.1 x.2).2.2 = true then sumF l ((addF s.1 s.2 x.1 x.2).1, (addF s.1 s.2 x.1 x.2).2.1) else (0, 0, false)

def sumsF (l : List (Int × Int)) : Int × Int × Bool := if l.length ≤ 50 then sumF l (0, 1) else (0, 0, false)

def isqUp (n : Int) : Nat → Int
  | 0 => 0
  | k + 1 => if ((k : Int) + 1) * ((k : Int) + 1) ≤ n then (k : Int) + 1 else isqUp n k
def isq (n : Int) : Int := isqUp n n.toNat
def goodB (a b c d : Int) : Bool := bothGood a b c d && (decide (0 ≤ a) && !decide (c * b < a * d))

def withinB (x y a b c d : Int) : Bool × Bool := if goodFrac x y = true ∧ goodB a b c d = true then (!decide (x * b < a * y) && !decide (c * y < x * d), true) else (false, false)

def rootB (n p : Int) : Int × Int × Int × Int × Bool :=
  if (0 ≤ n ∧ n ≤ 1000000000000) ∧ (1 ≤ p ∧ p ≤ 1000) ∧ n ≤ 1000000000000 / (p * p) then
    (lowNum (isq (n * p * p)) p, lowDen (isq (n * p * p)) p, lowNum (if isq (n * p * p) * isq (n * p * p) = n * p * p then isq (n * p * p) else isq (n * p * p) + 1) p, lowDen (if isq (n * p * p) * isq (n * p * p) = n * p * p then isq (n * p * p) else isq (n * p * p) + 1) p, true)
  else (0, 0, 0, 0, false)
def losOf (l : List S44) : List (Int × Int) := l.map fun b => (b.f0.f0, b.f0.f1)
def hisOf (l : List S44) : List (Int × Int) := l.map fun b => (b.f1.f0, b.f1.f1)
def sumB (l : List S44) : Int × Int × Int × Int × Bool :=
  if l.length ≤ 20 ∧ (l.all fun b => goodB b.f0.f0 b.f0.f1 b.f1.f0 b.f1.f1) = true ∧ (sumF (losOf l) (0, 1)).2.2 = true ∧ (sumF (hisOf l) (0, 1)).2.2 = true then
    ((sumF (losOf l) (0, 1)).1, (sumF (losOf l) (0, 1)).2.1, (sumF (hisOf l) (0, 1)).1, (sumF (hisOf l) (0, 1)).2.1, true)
  else (0, 0, 0, 0, false)

def csq (n : Int) : Int := if isq n * isq n = n then isq n else isq n + 1
def rootsL (flow : List Int) (p : Int) : Int := (flow.map fun f => isq (f * p * p)).sum
def rootsH (flow : List Int) (p : Int) : Int := (flow.map fun f => csq (f * p * p)).sum
def leastB (flow : List Int) (room p : Int) : Int × Int × Int × Int × Bool :=
  if flowOk flow = true ∧ (8 ≤ room ∧ room ≤ 1000) ∧ (1 ≤ p ∧ p ≤ 100) then
    (lowNum (rootsL flow p * rootsL flow p) (p * p * room), lowDen (rootsL flow p * rootsL flow p) (p * p * room), lowNum (rootsH flow p * rootsH flow p) (p * p * room), lowDen (rootsH flow p * rootsH flow p) (p * p * room), true)
  else (0, 0, 0, 0, false)
def bndOf (p f : Int) : S44 := ⟨⟨lowNum (isq (f * p * p)) p, lowDen (isq (f * p * p)) p⟩, ⟨lowNum (csq (f * p * p)) p, lowDen (csq (f * p * p)) p⟩⟩

theorem ev_all {β : Type} (n : Nat) (P : Nat → Bool) (g : Nat → Nat → Option β) (yes no : β)
    (hs : ∀ r i, i < n → P i = true → Ev (fun k => g k (i + 1)) r → Ev (fun k => g k i) r) (hno : ∀ i, i < n → P i = false → Ev (fun k => g k i) no)
    (hyes : (∀ i, i < n → P i = true) → Ev (fun k => g k n) yes) (b : Bool) (hb : b = true ↔ ∀ i, i < n → P i = true) : Ev (fun k => g k 0) (if b = true then yes else no) := by
  by_cases h : ∀ i, i < n → P i = true
  · rw [if_pos (hb.mpr h)]
    exact ev_up n g yes (fun _ => True) trivial (fun _ => hyes h) fun i hi _ hn => hs _ i hi (h i hi) (hn trivial)
  · rw [if_neg (fun hx => h (hb.mp hx))]
    have h1 : ∃ i, i < n ∧ P i = false := by
      refine Classical.byContradiction fun hc => h fun i hi => ?_
      cases hp : P i with
      | true => rfl
      | false => exact absurd ⟨i, hi, hp⟩ hc
    obtain ⟨m, hm, hmin⟩ := exists_least h1
    refine ev_up m g no (fun _ => True) trivial (fun _ => hno m hm.1 hm.2) fun i hi _ hn => hs _ i (by omega) ?_ (hn trivial)
    cases hp : P i with
    | true => rfl
    | false => have := hmin i ⟨by omega, hp⟩; omega
def allTo (P : Nat → Bool) (n : Nat) : Bool := (List.range n).all P
theorem allTo_iff (P : Nat → Bool) (n : Nat) : allTo P n = true ↔ ∀ i, i < n → P i = true := by simp [allTo, List.all_eq_true]

def KK : Int := 219060189739591200
def kd (c : Int) : Int := KK / c
def gK (c : Int) : Int := kd c - kd (c + 1)
def Stab (n : Nat) (f c : Nat → Int) : Prop := ∀ i k, i < n → k < n → i ≠ k → 1 < c i → f k * gK (c k) ≤ f i * gK (c i - 1)
def costN (n : Nat) (f c : Nat → Int) : Int := sumTo (fun i => f i * kd (c i)) n
def tK (x : Int × Int) : Int := x.1 * KK / x.2
def isT (x : Int × Int) (t : Int) : Prop := 1 ≤ x.2 ∧ x.1 * KK = x.2 * t
def ratioL (flow counts : List Int) : List (Int × Int) := (List.range flow.length).map fun (j : Nat) => (lowNum (rd flow j) (rd counts j), lowDen (rd flow j) (rd counts j))
def costF (flow counts : List Int) : Int × Int × Bool := if countsOk flow counts = true then sumF (ratioL flow counts) (0, 1) else (0, 0, false)

theorem plN_congr {d e : Nat → Nat} {n : Nat} (h : ∀ i, i < n → d i = e i) : plN d n = plN e n := by
  induction n with
  | zero => rfl
  | succ n ih => simp only [plN]; rw [ih fun i hi => h i (by omega), h n (by omega)]
theorem plN_bump (d : Nat → Nat) {n j : Nat} (h : j < n) : plN (fun i => if i = j then d i + 1 else d i) n = plN d n + 1 := by
  induction n with
  | zero => omega
  | succ n ih =>
    simp only [plN]
    by_cases e : j = n
    · subst e
      rw [plN_congr (e := d) (fun i hi => if_neg (by omega)), if_pos rfl]; omega
    · rw [ih (by omega), if_neg (by omega)]; omega
theorem rd_setc (o : List Int) (b x : Nat) (v : Int) (h : b < o.length) : rd (o.set b v) (x : Int) = if x = b then v else rd o (x : Int) := by
  simp only [rd, Int.toNat_natCast, List.getD_eq_getElem?_getD, List.getElem?_set]
  by_cases hx : b = x
  · subst hx; simp [h]
  · rw [if_neg hx, if_neg (fun e => hx e.symm)]
def inAt (l : List S53) (cs : List Int) (i : Nat) : Bool := decide (0 ≤ rd cs (i : Int)) && decide (rd cs (i : Int) ≤ (((gl l).getD i []).length : Int))
def valTo (l : List S53) (cs : List Int) (i : Nat) : Int := sumN (fun j => gainN ((gl l).getD j []) (rd cs (j : Int)).toNat) i
def valOk (l : List S53) (cs : List Int) : Bool := offersOk l && (decide (cs.length = l.length) && allTo (inAt l cs) cs.length)
def valF (l : List S53) (cs : List Int) : Int × Bool := if valOk l cs = true then (valTo l cs cs.length, true) else (0, false)
def maxTo (g : List Int) : Nat → Int
  | 0 => 0
  | i + 1 => max (maxTo g i) (rd g (i : Int))
def boundTo (l : List S53) (i : Nat) : Int := sumN (fun j => maxTo ((gl l).getD j []) ((gl l).getD j []).length) i
def boundF (l : List S53) (p : Int) : Int × Bool := if offered l p = true then (boundTo l l.length, true) else (0, false)

theorem plN_front (f : Nat → Nat) : ∀ n, plN f (n + 1) = f 0 + plN (fun i => f (i + 1)) n
  | 0 => by simp [plN]
  | n + 1 => by
    have ih := plN_front f n
    rw [show plN f (n + 1 + 1) = plN f (n + 1) + f (n + 1) from rfl, ih]
    rw [show plN (fun i => f (i + 1)) (n + 1) = plN (fun i => f (i + 1)) n + f (n + 1) from rfl]
    omega
def tableF (l : List S53) (p : Int) : List Int × Bool := if offered l p = true then (rowAt (gl l) p.toNat l.length, true) else ([], false)
def outOf (l : List S53) (k : Nat) : List S53 := l.take k ++ l.drop (k + 1)
def dropOk (l : List S53) (k p : Int) : Bool := offered l p && (decide (0 ≤ k) && decide (k < (l.length : Int)))
def dropF (l : List S53) (k p : Int) : Int × Bool := if dropOk l k p = true then (rd (rowAt (gl l) p.toNat l.length) p - rd (rowAt (gl (outOf l k.toNat)) p.toNat (l.length - 1)) p, true) else (0, false)

theorem sumN_add (f g : Nat → Int) : ∀ n, sumN (fun i => f i + g i) n = sumN f n + sumN g n
  | 0 => rfl
  | n + 1 => by simp only [sumN, sumN_add f g n]; omega
theorem sumN_sub (f g : Nat → Int) : ∀ n, sumN (fun i => f i - g i) n = sumN f n - sumN g n
  | 0 => rfl
  | n + 1 => by simp only [sumN, sumN_sub f g n]; omega
theorem sumN_zero : ∀ n, sumN (fun _ => (0 : Int)) n = 0
  | 0 => rfl
  | n + 1 => by simp only [sumN, sumN_zero n]; rfl
theorem sumN_swap (g : Nat → Nat → Int) (m : Nat) : ∀ n, sumN (fun a => sumN (fun b => g a b) m) n = sumN (fun b => sumN (fun a => g a b) n) m
  | 0 => by simp only [sumN]; rw [sumN_zero]
  | n + 1 => by
    rw [show sumN (fun a => sumN (fun b => g a b) m) (n + 1) = sumN (fun a => sumN (fun b => g a b) m) n + sumN (fun b => g n b) m from rfl, sumN_swap g m n, ← sumN_add]
    rfl
theorem sumN_single (f : Nat → Int) (k : Nat) : ∀ n, (∀ i, i < n → i ≠ k → f i = 0) → sumN f n = if k < n then f k else 0
  | 0, _ => rfl
  | n + 1, h => by
    rw [show sumN f (n + 1) = sumN f n + f n from rfl, sumN_single f k n (fun i hi hk => h i (by omega) hk)]
    by_cases c : k < n
    · rw [if_pos c, if_pos (by omega), h n (by omega) (by omega)]; omega
    · by_cases c2 : k = n
      · subst c2; rw [if_neg c, if_pos (by omega)]; omega
      · rw [if_neg c, if_neg (by omega), h n (by omega) (Ne.symm c2)]; rfl

def valAt (f : Nat → Nat → Int) (n a : Nat) : Int := sumN (fun k => f a k - f k a) n
def across (w : Nat → Nat → Int) (n : Nat) (R : Nat → Bool) : Int := sumN (fun a => sumN (fun b => if R a = true ∧ R b = false then w a b else 0) n) n
theorem across_le {f w : Nat → Nat → Int} {n : Nat} {R : Nat → Bool} (h : ∀ a b, a < n → b < n → R a = true → R b = false → f a b ≤ w a b) : across f n R ≤ across w n R :=
  sumN_le fun a ha => sumN_le fun b hb => by
    by_cases c : R a = true ∧ R b = false
    · rw [if_pos c, if_pos c]; exact h a b ha hb c.1 c.2
    · rw [if_neg c, if_neg c]; exact Int.le_refl _
theorem across_congr {f w : Nat → Nat → Int} {n : Nat} {R : Nat → Bool} (h : ∀ a b, a < n → b < n → R a = true → R b = false → f a b = w a b) : across f n R = across w n R :=
  sumN_congr fun a ha => sumN_congr fun b hb => by
    by_cases c : R a = true ∧ R b = false
    · rw [if_pos c, if_pos c]; exact h a b ha hb c.1 c.2
    · rw [if_neg c, if_neg c]
theorem flow_across (f : Nat → Nat → Int) (n : Nat) (hn : 2 ≤ n) (R : Nat → Bool) (h0 : R 0 = true) (hl : R (n - 1) = false) (hc : ∀ a, 0 < a → a < n - 1 → valAt f n a = 0) :
    valAt f n 0 = across (fun a b => f a b - f b a) n R := by
  have s1 : sumN (fun a => if R a = true then valAt f n a else 0) n = valAt f n 0 := by
    rw [sumN_single _ 0 n (fun a ha hne => ?_), if_pos (by omega), if_pos h0]
    by_cases c : R a = true
    · rw [if_pos c]
      by_cases e : a = n - 1
      · rw [e, hl] at c; cases c
      · exact hc a (by omega) (by omega)
    · rw [if_neg c]
  have s2 : sumN (fun a => if R a = true then valAt f n a else 0) n = sumN (fun a => sumN (fun b => if R a = true ∧ R b = true then f a b - f b a else 0) n) n + across (fun a b => f a b - f b a) n R := by
    unfold across
    rw [← sumN_add]
    refine sumN_congr fun a ha => ?_
    rw [← sumN_add]
    by_cases c : R a = true
    · rw [if_pos c]
      unfold valAt
      refine sumN_congr fun b hb => ?_
      by_cases d : R b = true
      · rw [if_pos ⟨c, d⟩, if_neg (by rw [d]; simp)]; omega
      · rw [if_neg (by simp [d]), if_pos ⟨c, Bool.eq_false_iff.mpr d⟩]; exact (Int.zero_add _).symm
    · rw [if_neg c]
      rw [sumN_congr (g := fun _ => 0) (fun b hb => by rw [if_neg (fun h => c h.1), if_neg (fun h => c h.1)]; rfl), sumN_zero]
  have s3 : sumN (fun a => sumN (fun b => if R a = true ∧ R b = true then f a b - f b a else 0) n) n = 0 := by
    have e : sumN (fun a => sumN (fun b => if R a = true ∧ R b = true then f a b - f b a else 0) n) n = sumN (fun a => sumN (fun b => if R a = true ∧ R b = true then f a b else 0) n) n - sumN (fun a => sumN (fun b => if R a = true ∧ R b = true then f b a else 0) n) n := by
      rw [← sumN_sub]
      refine sumN_congr fun a ha => ?_
      rw [← sumN_sub]
      refine sumN_congr fun b hb => ?_
      by_cases c : R a = true ∧ R b = true
      · rw [if_pos c, if_pos c, if_pos c]
      · rw [if_neg c, if_neg c, if_neg c]; rfl
    have e2 : sumN (fun a => sumN (fun b => if R a = true ∧ R b = true then f b a else 0) n) n = sumN (fun a => sumN (fun b => if R a = true ∧ R b = true then f a b else 0) n) n := by
      rw [sumN_swap]
      refine sumN_congr fun a ha => sumN_congr fun b hb => ?_
      by_cases c : R a = true ∧ R b = true
      · rw [if_pos c, if_pos ⟨c.2, c.1⟩]
      · rw [if_neg c, if_neg (fun h => c ⟨h.2, h.1⟩)]
    rw [e, e2]; omega
  rw [← s1, s2, s3]; omega
theorem flow_le_cut {f w : Nat → Nat → Int} {n : Nat} (hn : 2 ≤ n) {R : Nat → Bool} (h0 : R 0 = true) (hl : R (n - 1) = false) (hc : ∀ a, 0 < a → a < n - 1 → valAt f n a = 0) (hf : ∀ a b, a < n → b < n → 0 ≤ f a b ∧ f a b ≤ w a b) :
    valAt f n 0 ≤ across w n R := by
  rw [flow_across f n hn R h0 hl hc]
  exact across_le fun a b ha hb _ _ => by
    have h1 := hf a b ha hb
    have h2 := hf b a hb ha
    omega
theorem flow_eq_cut {f w : Nat → Nat → Int} {n : Nat} (hn : 2 ≤ n) {R : Nat → Bool} (h0 : R 0 = true) (hl : R (n - 1) = false) (hc : ∀ a, 0 < a → a < n - 1 → valAt f n a = 0) (hf : ∀ a b, a < n → b < n → 0 ≤ f a b ∧ f a b ≤ w a b)
    (hr : ∀ a b, a < n → b < n → R a = true → R b = false → w a b - f a b + f b a ≤ 0) : valAt f n 0 = across w n R := by
  rw [flow_across f n hn R h0 hl hc]
  exact across_congr fun a b ha hb hA hB => by
    have h1 := hf a b ha hb
    have h2 := hf b a hb ha
    have h3 := hr a b ha hb hA hB
    omega

def markH (rm : Nat → Nat → Int) (a : Nat) (s : List Int × List Nat) (b : Nat) : List Int × List Nat := if rd s.1 (b : Int) < 0 ∧ 0 < rm a b then (s.1.set b (a : Int), s.2 ++ [b]) else s
def scanH (rm : Nat → Nat → Int) (a : Nat) (s : List Int × List Nat) : Nat → List Int × List Nat
  | 0 => s
  | b + 1 => markH rm a (scanH rm a s b) b
def comeH (rm : Nat → Nat → Int) (n : Nat) : Nat → List Int → List Nat → List Int
  | 0, fr, _ => fr
  | _ + 1, fr, [] => fr
  | k + 1, fr, a :: q => comeH rm n k (scanH rm a (fr, a :: q) n).1 ((scanH rm a (fr, a :: q) n).2.drop 1)
def unseen (fr : List Int) (n : Nat) : Nat := plN (fun b => if rd fr (b : Int) < 0 then 1 else 0) n
structure Came (rm : Nat → Nat → Int) (n : Nat) (fr : List Int) (q : List Nat) (rk : Nat → Nat) : Prop where
  len : fr.length = n
  zero : rd fr 0 = 0
  lo : ∀ b, b < n → -1 ≤ rd fr (b : Int)
  q_lt : ∀ x ∈ q, x < n ∧ 0 ≤ rd fr (x : Int)
  par : ∀ b, b < n → b ≠ 0 → 0 ≤ rd fr (b : Int) → ∃ a : Nat, a < n ∧ rd fr (b : Int) = (a : Int) ∧ 0 ≤ rd fr (a : Int) ∧ 0 < rm a b ∧ rk a < rk b
  rkn : ∀ b, b < n → 0 ≤ rd fr (b : Int) → rk b + unseen fr n < n
def Full (rm : Nat → Nat → Int) (n : Nat) (fr : List Int) (q : List Nat) : Prop := ∀ a, a < n → 0 ≤ rd fr (a : Int) → a ∉ q → ∀ b, b < n → 0 < rm a b → 0 ≤ rd fr (b : Int)
theorem unseen_set (fr : List Int) (b n : Nat) (hb : b < n) (hl : fr.length = n) (h : rd fr (b : Int) < 0) (v : Int) (hv : 0 ≤ v) : unseen (fr.set b v) n + 1 = unseen fr n := by
  unfold unseen
  have key := plN_bump (fun x => if rd (fr.set b v) (x : Int) < 0 then 1 else 0) hb
  rw [← key]
  refine plN_congr fun i hi => ?_
  rw [rd_setc fr b i v (by omega)]
  by_cases e : i = b
  · subst e; rw [if_pos rfl, if_pos rfl, if_neg (by omega), if_pos h]
  · rw [if_neg e, if_neg e]
theorem mark_ok {rm : Nat → Nat → Int} {n a b : Nat} {fr : List Int} {q : List Nat} {rk : Nat → Nat} (h : Came rm n fr q rk) (hf : Full rm n fr q) (ha : a ∈ q) (hb : b < n) :
    ∃ rk', Came rm n (markH rm a (fr, q) b).1 (markH rm a (fr, q) b).2 rk' ∧ Full rm n (markH rm a (fr, q) b).1 (markH rm a (fr, q) b).2 ∧ (∃ e, (markH rm a (fr, q) b).2 = q ++ e) ∧
      (∀ x : Nat, 0 ≤ rd fr (x : Int) → rd (markH rm a (fr, q) b).1 (x : Int) = rd fr (x : Int)) ∧ (0 < rm a b → 0 ≤ rd (markH rm a (fr, q) b).1 (b : Int)) ∧
      unseen (markH rm a (fr, q) b).1 n + (markH rm a (fr, q) b).2.length = unseen fr n + q.length := by
  obtain ⟨a_lt, a_in⟩ := h.q_lt a ha
  unfold markH
  dsimp only
  by_cases c : rd fr (b : Int) < 0 ∧ 0 < rm a b
  · rw [if_pos c]
    dsimp only
    have hbl : b < fr.length := by rw [h.len]; exact hb
    have hb0 : b ≠ 0 := fun e => by have h2 := h.zero; subst e; have := c.1; rw [show ((0 : Nat) : Int) = 0 from rfl, h2] at this; omega
    have hr : ∀ x : Nat, rd (fr.set b (a : Int)) (x : Int) = if x = b then (a : Int) else rd fr (x : Int) := fun x => rd_setc fr b x _ hbl
    have hold : ∀ x : Nat, 0 ≤ rd fr (x : Int) → rd (fr.set b (a : Int)) (x : Int) = rd fr (x : Int) := fun x hx => by
      rw [hr x, if_neg (fun e => by subst e; omega)]
    have hin : ∀ x : Nat, 0 ≤ rd fr (x : Int) → 0 ≤ rd (fr.set b (a : Int)) (x : Int) := fun x hx => by rw [hold x hx]; exact hx
    refine ⟨fun x => if x = b then rk a + 1 else rk x, ⟨by rw [List.length_set]; exact h.len, ?_, fun x hx => ?_, fun x hx => ?_, fun x hx hx0 hxp => ?_, fun x hx hxp => ?_⟩, fun x hx hxp hxq y hy hxy => ?_, ⟨[b], rfl⟩, hold, fun _ => ?_, ?_⟩
    · have := hr 0
      rw [if_neg (Ne.symm hb0)] at this
      rw [show ((0 : Nat) : Int) = 0 from rfl] at this
      rw [this]; exact h.zero
    · rw [hr x]; split
      · omega
      · exact h.lo x hx
    · rcases List.mem_append.mp hx with hx | hx
      · exact ⟨(h.q_lt x hx).1, hin x (h.q_lt x hx).2⟩
      · rw [List.mem_singleton] at hx; subst hx
        exact ⟨hb, by rw [hr x, if_pos rfl]; omega⟩
    · by_cases e : x = b
      · subst e
        refine ⟨a, a_lt, by rw [hr x, if_pos rfl], hin a a_in, c.2, ?_⟩
        rw [if_pos rfl, if_neg (fun e => by subst e; omega)]; omega
      · rw [hr x, if_neg e] at hxp
        obtain ⟨p, h1, h2, h3, h4, h5⟩ := h.par x hx hx0 hxp
        refine ⟨p, h1, by rw [hr x, if_neg e]; exact h2, hin p h3, h4, ?_⟩
        rw [if_neg (fun e => by subst e; omega), if_neg e]; exact h5
    · have h9 := unseen_set fr b n hb h.len c.1 (a : Int) (by omega)
      by_cases e : x = b
      · rw [if_pos e]
        have := h.rkn a a_lt a_in
        omega
      · rw [hr x, if_neg e] at hxp
        rw [if_neg e]
        have := h.rkn x hx hxp
        omega
    · rw [List.mem_append, not_or] at hxq
      have e : x ≠ b := fun e => hxq.2 (by rw [e]; exact List.mem_singleton.mpr rfl)
      rw [hr x, if_neg e] at hxp
      exact hin y (hf x hx hxp hxq.1 y hy hxy)
    · rw [hr b, if_pos rfl]; omega
    · have := unseen_set fr b n hb h.len c.1 (a : Int) (by omega)
      rw [List.length_append, List.length_singleton]; omega
  · rw [if_neg c]
    refine ⟨rk, h, hf, ⟨[], (List.append_nil _).symm⟩, fun _ _ => rfl, fun hp => ?_, rfl⟩
    dsimp only
    by_cases d : rd fr (b : Int) < 0
    · exact absurd ⟨d, hp⟩ c
    · omega
theorem scan_ok {rm : Nat → Nat → Int} {n a : Nat} {fr : List Int} {q : List Nat} {rk : Nat → Nat} (h : Came rm n fr q rk) (hf : Full rm n fr q) (ha : a ∈ q) :
    ∀ m, m ≤ n → ∃ rk', Came rm n (scanH rm a (fr, q) m).1 (scanH rm a (fr, q) m).2 rk' ∧ Full rm n (scanH rm a (fr, q) m).1 (scanH rm a (fr, q) m).2 ∧ (∃ e, (scanH rm a (fr, q) m).2 = q ++ e) ∧
      (∀ x : Nat, 0 ≤ rd fr (x : Int) → rd (scanH rm a (fr, q) m).1 (x : Int) = rd fr (x : Int)) ∧ (∀ b, b < m → 0 < rm a b → 0 ≤ rd (scanH rm a (fr, q) m).1 (b : Int)) ∧
      unseen (scanH rm a (fr, q) m).1 n + (scanH rm a (fr, q) m).2.length = unseen fr n + q.length
  | 0, _ => ⟨rk, h, hf, ⟨[], (List.append_nil _).symm⟩, fun _ _ => rfl, fun b hb => absurd hb (by omega), rfl⟩
  | m + 1, hm => by
    obtain ⟨rk1, h1, h2, ⟨e, h3⟩, h4, h5, h6⟩ := scan_ok h hf ha m (by omega)
    obtain ⟨rk2, g1, g2, ⟨e2, g3⟩, g4, g5, g6⟩ := mark_ok (b := m) h1 h2 (by rw [h3]; exact List.mem_append_left _ ha) (by omega)
    refine ⟨rk2, g1, g2, ⟨e ++ e2, ?_⟩, fun x hx => ?_, fun b hb hr => ?_, ?_⟩
    · show (markH rm a (scanH rm a (fr, q) m) m).2 = _
      rw [g3, h3, List.append_assoc]
    · show rd (markH rm a (scanH rm a (fr, q) m) m).1 (x : Int) = _
      rw [g4 x (by rw [h4 x hx]; exact hx), h4 x hx]
    · by_cases c : b = m
      · subst c; exact g5 hr
      · have := h5 b (by omega) hr
        show 0 ≤ rd (markH rm a (scanH rm a (fr, q) m) m).1 (b : Int)
        rw [g4 b this]; exact this
    · show unseen (markH rm a (scanH rm a (fr, q) m) m).1 n + (markH rm a (scanH rm a (fr, q) m) m).2.length = _
      rw [g6, h6]
theorem come_ok {rm : Nat → Nat → Int} {n : Nat} : ∀ (k : Nat) (fr : List Int) (q : List Nat) (rk : Nat → Nat), Came rm n fr q rk → Full rm n fr q → unseen fr n + q.length < k → ∃ rk', Came rm n (comeH rm n k fr q) [] rk' ∧ Full rm n (comeH rm n k fr q) []
  | 0, _, _, _, _, _, h => absurd h (by omega)
  | k + 1, fr, [], rk, h, hf, _ => ⟨rk, h, hf⟩
  | k + 1, fr, a :: q, rk, h, hf, hk => by
    obtain ⟨rk1, h1, h2, ⟨e, h3⟩, h4, h5, h6⟩ := scan_ok h hf (List.mem_cons_self : a ∈ a :: q) n (Nat.le_refl _)
    simp only [comeH]
    have hd : (scanH rm a (fr, a :: q) n).2 = a :: (q ++ e) := by rw [h3]; rfl
    refine come_ok k _ _ rk1 ⟨h1.len, h1.zero, h1.lo, fun x hx => h1.q_lt x (by rw [hd] at hx ⊢; exact List.mem_cons_of_mem _ hx), h1.par, h1.rkn⟩ (fun x hx hxp hxq y hy hxy => ?_) ?_
    · by_cases c : x = a
      · subst c; exact h5 y hy hxy
      · refine h2 x hx hxp (fun hm => ?_) y hy hxy
        rw [hd] at hm hxq
        rcases List.mem_cons.mp hm with hm | hm
        · exact c hm
        · exact hxq hm
    · rw [hd] at h6 ⊢
      simp only [List.drop_one, List.tail_cons]
      simp only [List.length_cons] at h6 hk
      omega

def ent (l : List (List Int)) (i j : Nat) : Int := rd (l.getD i []) (j : Int)
structure Sq (n : Nat) (l : List (List Int)) : Prop where
  len : l.length = n
  row : ∀ i, i < n → (l.getD i []).length = n
  lo : ∀ i j, i < n → j < n → -1000 ≤ ent l i j ∧ ent l i j ≤ 1000
def roomN (w f : List (List Int)) (a b : Nat) : Int := ent w a b - ent f a b + ent f b a
theorem rdL_getD (l : List (List Int)) (i : Nat) : rd_L2 l (i : Int) = l.getD i [] := by simp [rd_L2]
theorem impl_room_eq {n : Nat} {w f : List (List Int)} (hw : Sq n w) (hf : Sq n f) (a b : Nat) (ha : a < n) (hb : b < n) : impl_room.f w f (a : Int) (b : Int) = some (roomN w f a b) := by
  unfold impl_room.f roomN ent
  rw [rdL_getD, rdL_getD, rdL_getD]
  have h1 := hw.lo a b ha hb
  have h2 := hf.lo a b ha hb
  have h3 := hf.lo b a hb ha
  have r1 := hw.row a ha
  have r2 := hf.row a ha
  have r3 := hf.row b hb
  have l1 := hw.len
  have l2 := hf.len
  unfold ent at h1 h2 h3
  rw [if_pos (by omega), if_pos (by omega), if_pos (by omega), if_pos (by omega), if_pos (by omega), if_pos (by omega), if_pos (by omega), if_pos (by omega), w64 (x := rd (w.getD a []) (b : Int) - rd (f.getD a []) (b : Int)) (by omega) (by omega), w64 (by omega) (by omega)]

theorem spec_l13Room_eq {n : Nat} {w f : List (List Int)} (hw : Sq n w) (hf : Sq n f) (a b : Nat) (ha : a < n) (hb : b < n) : spec_l13Room.f w f (a : Int) (b : Int) = some (roomN w f a b) := by
  unfold spec_l13Room.f roomN ent
  rw [rdL_getD, rdL_getD, rdL_getD]
  have h1 := hw.lo a b ha hb
  have h2 := hf.lo a b ha hb
  have h3 := hf.lo b a hb ha
  have r1 := hw.row a ha
  have r2 := hf.row a ha
  have r3 := hf.row b hb
  have l1 := hw.len
  have l2 := hf.len
  unfold ent at h1 h2 h3
  rw [if_pos (by omega), if_pos (by omega), if_pos (by omega), if_pos (by omega), if_pos (by omega), if_pos (by omega), if_pos (by omega), if_pos (by omega), w64 (x := rd (w.getD a []) (b : Int) - rd (f.getD a []) (b : Int)) (by omega) (by omega), w64 (by omega) (by omega)]

theorem scan_head (rm : Nat → Nat → Int) (a : Nat) (fr : List Int) (q : List Nat) : ∀ m, (∃ e, (scanH rm a (fr, a :: q) m).2 = a :: (q ++ e)) ∧ (scanH rm a (fr, a :: q) m).1.length = fr.length
  | 0 => ⟨⟨[], by simp [scanH]⟩, rfl⟩
  | m + 1 => by
    obtain ⟨⟨e, h1⟩, h2⟩ := scan_head rm a fr q m
    simp only [scanH, markH]
    split
    · exact ⟨⟨e ++ [m], by rw [h1]; simp⟩, by rw [List.length_set]; exact h2⟩
    · exact ⟨⟨e, h1⟩, h2⟩
theorem impl_comeTo_l0 {n : Nat} {w f : List (List Int)} (hw : Sq n w) (hf : Sq n f) (hn : n ≤ 100) : ∀ (K : Nat) (fr : List Int) (q : List Nat) (rk : Nat → Nat), Came (roomN w f) n fr q rk → Full (roomN w f) n fr q → unseen fr n + q.length < K → K ≤ 100000 →
    Ev (fun k => impl_comeTo.l0 k w f fr (q.map fun x : Nat => (x : Int))) (comeH (roomN w f) n K fr q)
  | 0, _, _, _, _, _, h, _ => absurd h (by omega)
  | K + 1, fr, [], rk, h, hfu, _, _ => by
    refine Ev.succ ?_
    simp only [impl_comeTo.l0, comeH]
    exact Ev.neg (by simp) (Ev.now _)
  | K + 1, fr, a :: q, rk, h, hfu, hk, hK => by
    obtain ⟨rk1, h1, h2, ⟨e, h3⟩, h4, h5, h6⟩ := scan_ok h hfu (List.mem_cons_self : a ∈ a :: q) n (Nat.le_refl _)
    have ha := (h.q_lt a List.mem_cons_self).1
    refine Ev.succ ?_
    simp only [impl_comeTo.l0, comeH]
    refine Ev.pos (by simp) ?_
    have hd : (scanH (roomN w f) a (fr, a :: q) n).2 = a :: (q ++ e) := by rw [h3]; rfl
    rw [hw.len]
    have key := ev_up n (fun k i => impl_comeTo.l1 k w f (scanH (roomN w f) a (fr, a :: q) i).1 ((scanH (roomN w f) a (fr, a :: q) i).2.map fun x : Nat => (x : Int)) (n : Int) (i : Int)) (comeH (roomN w f) n K (scanH (roomN w f) a (fr, a :: q) n).1 ((scanH (roomN w f) a (fr, a :: q) n).2.drop 1)) (fun _ => True) trivial ?_ ?_
    · exact key
    · intro _
      refine Ev.succ ?_
      simp only [impl_comeTo.l1]
      refine Ev.neg (by omega) (Ev.pos (by rw [hd]; simp; omega) ?_)
      have hdr : List.drop (1 : Int).toNat (List.map (fun x : Nat => (x : Int)) (scanH (roomN w f) a (fr, a :: q) n).2) = ((scanH (roomN w f) a (fr, a :: q) n).2.drop 1).map fun x : Nat => (x : Int) := by rw [List.map_drop]; rfl
      rw [hdr]
      refine impl_comeTo_l0 hw hf hn K _ _ rk1 ⟨h1.len, h1.zero, h1.lo, fun x hx => h1.q_lt x (by rw [hd] at hx ⊢; exact List.mem_cons_of_mem _ hx), h1.par, h1.rkn⟩ (fun x hx hxp hxq y hy hxy => ?_) ?_ (by omega)
      · by_cases c : x = a
        · subst c; exact h5 y hy hxy
        · refine h2 x hx hxp (fun hm => ?_) y hy hxy
          rw [hd] at hm hxq
          rcases List.mem_cons.mp hm with hm | hm
          · exact c hm
          · exact hxq hm
      · rw [hd] at h6 ⊢
        simp only [List.drop_one, List.tail_cons]
        simp only [List.length_cons] at h6 hk
        omega
    · intro i hi _ hnx
      have hnx := hnx trivial
      obtain ⟨⟨e1, g1⟩, g2⟩ := scan_head (roomN w f) a fr q i
      obtain ⟨_, _, _, _, _, _, g6⟩ := scan_ok h hfu (List.mem_cons_self : a ∈ a :: q) i (by omega)
      have hl : (scanH (roomN w f) a (fr, a :: q) i).1.length = n := by rw [g2]; exact h.len
      refine Ev.succ ?_
      simp only [impl_comeTo.l1]
      have hq0 : rd (List.map (fun x : Nat => (x : Int)) (scanH (roomN w f) a (fr, a :: q) i).2) 0 = (a : Int) := by rw [g1]; simp [rd, rdOf]
      rw [hq0, impl_room_eq hw hf a i ha hi, toNat_nat, w64 (x := (i : Int) + 1) (by omega) (by omega)]
      refine Ev.pos (by omega) (Ev.pos (by omega) (Ev.pos (by rw [hl]; omega) ?_))
      have hstep : scanH (roomN w f) a (fr, a :: q) (i + 1) = markH (roomN w f) a (scanH (roomN w f) a (fr, a :: q) i) i := rfl
      rw [hstep] at hnx
      unfold markH at hnx
      by_cases c : rd (scanH (roomN w f) a (fr, a :: q) i).1 (i : Int) < 0
      · refine Ev.pos c (Ev.pos (by rw [g1]; simp; omega) (Ev.bind0 (a := roomN w f a i) rfl ?_))
        by_cases d : roomN w f a i > 0
        · rw [if_pos ⟨c, d⟩] at hnx
          refine Ev.pos d (Ev.pos (by rw [List.length_map]; simp only [List.length_cons] at g6 hk; omega) ?_)
          dsimp only at hnx
          rw [List.map_append] at hnx
          exact hnx
        · rw [if_neg (fun z => d z.2)] at hnx
          exact Ev.neg d hnx
      · rw [if_neg (fun z => c z.1)] at hnx
        exact Ev.neg c hnx

def startF (n : Nat) : List Int := (List.replicate n (-1 : Int)).set 0 0
def cameF (rm : Nat → Nat → Int) (n : Nat) : List Int := comeH rm n (n + 2) (startF n) [0]
theorem startF_rd (n b : Nat) (hb : b < n) : rd (startF n) (b : Int) = if b = 0 then 0 else -1 := by
  unfold startF
  rw [rd_setc _ 0 b 0 (by simp; omega)]
  split
  · rfl
  · rw [rd_nat _ b (by simp; exact hb)]; simp
theorem unseen_le (fr : List Int) : ∀ n, unseen fr n ≤ n
  | 0 => Nat.le_refl _
  | n + 1 => by
    have := unseen_le fr n
    unfold unseen at this ⊢
    simp only [plN]
    split <;> omega
theorem unseen_lt (fr : List Int) (n : Nat) (hn : 0 < n) (h : 0 ≤ rd fr 0) : unseen fr n < n := by
  obtain ⟨m, rfl⟩ : ∃ m, n = m + 1 := ⟨n - 1, by omega⟩
  unfold unseen
  rw [plN_front, if_neg (show ¬ rd fr ((0 : Nat) : Int) < 0 by rw [show ((0 : Nat) : Int) = 0 from rfl]; omega)]
  have gen : ∀ k, plN (fun i => if rd fr ((i + 1 : Nat) : Int) < 0 then 1 else 0) k ≤ k := by
    intro k
    induction k with
    | zero => exact Nat.le_refl _
    | succ k ih => simp only [plN]; split <;> omega
  have := gen m
  omega
theorem start_came (rm : Nat → Nat → Int) (n : Nat) (hn : 0 < n) : Came rm n (startF n) [0] (fun _ => 0) ∧ Full rm n (startF n) [0] := by
  have h0 : rd (startF n) 0 = 0 := by have := startF_rd n 0 hn; rw [if_pos rfl] at this; exact this
  refine ⟨⟨by simp [startF], h0, fun b hb => ?_, fun x hx => ?_, fun b hb hb0 hp => ?_, fun b hb hp => ?_⟩, fun a ha hp hq => ?_⟩
  · rw [startF_rd n b hb]; split <;> omega
  · rw [List.mem_singleton] at hx; subst hx
    exact ⟨hn, by rw [show ((0 : Nat) : Int) = 0 from rfl, h0]; omega⟩
  · rw [startF_rd n b hb, if_neg hb0] at hp; omega
  · have := unseen_lt (startF n) n hn (by rw [h0]; omega); omega
  · by_cases e : a = 0
    · subst e; exact absurd List.mem_cons_self hq
    · rw [startF_rd n a ha, if_neg e] at hp; omega
theorem cameF_ok (rm : Nat → Nat → Int) (n : Nat) (hn : 0 < n) : ∃ rk, Came rm n (cameF rm n) [] rk ∧ Full rm n (cameF rm n) [] := by
  obtain ⟨h1, h2⟩ := start_came rm n hn
  exact come_ok (n + 2) _ _ _ h1 h2 (by have := unseen_le (startF n) n; simp; omega)

theorem impl_comeTo_ev {n : Nat} {w f : List (List Int)} (hw : Sq n w) (hf : Sq n f) (hn : 0 < n ∧ n ≤ 100) : Ev (fun k => impl_comeTo.f k w f) (cameF (roomN w f) n) := by
  unfold impl_comeTo.f
  rw [hw.len, slices_Repeat_one (-1) n (by omega)]
  refine Ev.bind0 (a := List.replicate n (-1)) rfl (Ev.pos (by simp; omega) ?_)
  obtain ⟨h1, h2⟩ := start_came (roomN w f) n hn.1
  exact impl_comeTo_l0 hw hf hn.2 (n + 2) (startF n) [0] _ h1 h2 (by have := unseen_le (startF n) n; simp; omega) (by omega)

def encS (fr : List Int) : List Int := (List.range fr.length).map fun b : Nat => if b = 0 then -1 else if rd fr (b : Int) < 0 then -2 else rd fr (b : Int)
theorem encS_len (fr : List Int) : (encS fr).length = fr.length := by simp [encS]
theorem encS_rd (fr : List Int) (b : Nat) (hb : b < fr.length) : rd (encS fr) (b : Int) = if b = 0 then -1 else if rd fr (b : Int) < 0 then -2 else rd fr (b : Int) := by
  rw [rd_nat _ b (by rw [encS_len]; exact hb)]; simp [encS]
theorem encS_set (fr : List Int) (b : Nat) (hb : b < fr.length) (h0 : b ≠ 0) (v : Int) (hv : 0 ≤ v) : (encS fr).set b v = encS (fr.set b v) := by
  apply List.ext_getElem (by simp [encS])
  intro i h1 h2
  have hi : i < fr.length := by simpa [encS] using h1
  have e1 := encS_rd (fr.set b v) i (by simp; exact hi)
  have e2 := encS_rd fr i hi
  rw [rd_nat _ i (by rw [encS_len, List.length_set]; exact hi), rd_setc fr b i v hb] at e1
  rw [rd_nat _ i (by rw [encS_len]; exact hi)] at e2
  rw [e1, List.getElem_set]
  by_cases e : b = i
  · subst e; rw [if_pos rfl, if_neg h0, if_pos rfl, if_neg (by omega)]
  · rw [if_neg e, e2, if_neg (Ne.symm e)]
theorem spec_l13Come_l1 {n : Nat} {w f : List (List Int)} (hw : Sq n w) (hf : Sq n f) (hn : n ≤ 100) : ∀ (K : Nat) (fr : List Int) (q : List Nat) (rk : Nat → Nat), Came (roomN w f) n fr q rk → Full (roomN w f) n fr q → unseen fr n + q.length < K → K ≤ 100000 →
    Ev (fun k => spec_l13Come.l1 k w f (encS fr) (q.map fun x : Nat => (x : Int))) (encS (comeH (roomN w f) n K fr q))
  | 0, _, _, _, _, _, h, _ => absurd h (by omega)
  | K + 1, fr, [], rk, h, hfu, _, _ => by
    refine Ev.succ ?_
    simp only [spec_l13Come.l1, comeH]
    exact Ev.neg (by simp) (Ev.now _)
  | K + 1, fr, a :: q, rk, h, hfu, hk, hK => by
    obtain ⟨rk1, h1, h2, ⟨e, h3⟩, h4, h5, h6⟩ := scan_ok h hfu (List.mem_cons_self : a ∈ a :: q) n (Nat.le_refl _)
    obtain ⟨ha, ha0⟩ := h.q_lt a List.mem_cons_self
    refine Ev.succ ?_
    simp only [spec_l13Come.l1, comeH]
    refine Ev.pos (by simp) (Ev.pos (by first | (simp; done) | (simp; omega)) (Ev.pos (by first | (simp; done) | (simp; omega)) ?_))
    have hd : (scanH (roomN w f) a (fr, a :: q) n).2 = a :: (q ++ e) := by rw [h3]; rfl
    have hq0 : rd (List.map (fun x : Nat => (x : Int)) (a :: q)) 0 = (a : Int) := by simp [rd, rdOf]
    have hdr0 : List.drop (1 : Int).toNat (List.map (fun x : Nat => (x : Int)) (a :: q)) = ((scanH (roomN w f) a (fr, a :: q) 0).2.drop 1).map fun x : Nat => (x : Int) := by rfl
    rw [hw.len, hq0, hdr0]
    have key := ev_up n (fun k i => spec_l13Come.l2 k w f (encS (scanH (roomN w f) a (fr, a :: q) i).1) (((scanH (roomN w f) a (fr, a :: q) i).2.drop 1).map fun x : Nat => (x : Int)) (a : Int) (n : Int) (i : Int)) (encS (comeH (roomN w f) n K (scanH (roomN w f) a (fr, a :: q) n).1 ((scanH (roomN w f) a (fr, a :: q) n).2.drop 1))) (fun _ => True) trivial ?_ ?_
    · exact key
    · intro _
      refine Ev.succ ?_
      simp only [spec_l13Come.l2]
      refine Ev.neg (by omega) ?_
      refine spec_l13Come_l1 hw hf hn K _ _ rk1 ⟨h1.len, h1.zero, h1.lo, fun x hx => h1.q_lt x (by rw [hd] at hx ⊢; exact List.mem_cons_of_mem _ hx), h1.par, h1.rkn⟩ (fun x hx hxp hxq y hy hxy => ?_) ?_ (by omega)
      · by_cases c : x = a
        · subst c; exact h5 y hy hxy
        · refine h2 x hx hxp (fun hm => ?_) y hy hxy
          rw [hd] at hm hxq
          rcases List.mem_cons.mp hm with hm | hm
          · exact c hm
          · exact hxq hm
      · rw [hd] at h6 ⊢
        simp only [List.drop_one, List.tail_cons]
        simp only [List.length_cons] at h6 hk
        omega
    · intro i hi _ hnx
      have hnx := hnx trivial
      obtain ⟨⟨e1, g1⟩, g2⟩ := scan_head (roomN w f) a fr q i
      obtain ⟨_, g3, _, _, _, _, g6⟩ := scan_ok h hfu (List.mem_cons_self : a ∈ a :: q) i (by omega)
      have hl : (scanH (roomN w f) a (fr, a :: q) i).1.length = n := by rw [g2]; exact h.len
      refine Ev.succ ?_
      simp only [spec_l13Come.l2]
      rw [spec_l13Room_eq hw hf a i ha hi, toNat_nat, w64 (x := (i : Int) + 1) (by omega) (by omega)]
      refine Ev.pos (by omega) (Ev.pos (by omega) (Ev.pos (by rw [encS_len, hl]; omega) ?_))
      have hstep : scanH (roomN w f) a (fr, a :: q) (i + 1) = markH (roomN w f) a (scanH (roomN w f) a (fr, a :: q) i) i := rfl
      rw [hstep] at hnx
      unfold markH at hnx
      have hrd := encS_rd (scanH (roomN w f) a (fr, a :: q) i).1 i (by rw [hl]; exact hi)
      by_cases c : rd (scanH (roomN w f) a (fr, a :: q) i).1 (i : Int) < 0
      · have hi0 : i ≠ 0 := fun e => by have h9 := g3.zero; subst e; rw [show ((0 : Nat) : Int) = 0 from rfl, h9] at c; omega
        rw [if_neg hi0, if_pos c] at hrd
        refine Ev.pos hrd (Ev.bind0 (a := roomN w f a i) rfl ?_)
        by_cases d : roomN w f a i > 0
        · rw [if_pos ⟨c, d⟩] at hnx
          refine Ev.pos d (Ev.pos (by rw [List.length_map, List.length_drop]; simp only [List.length_cons] at g6 hk; omega) ?_)
          dsimp only at hnx
          rw [encS_set _ i (by rw [hl]; exact hi) hi0 _ (by omega)]
          rw [g1, List.cons_append, List.drop_one, List.tail_cons, List.map_append] at hnx
          rw [g1, List.drop_one, List.tail_cons]
          exact hnx
        · rw [if_neg (fun z => d z.2)] at hnx
          exact Ev.neg d hnx
      · rw [if_neg (fun z => c z.1)] at hnx
        refine Ev.neg ?_ hnx
        rw [hrd]
        by_cases e0 : i = 0
        · rw [if_pos e0]; omega
        · rw [if_neg e0, if_neg c]; omega
theorem spec_l13Come_ev {n : Nat} {w f : List (List Int)} (hw : Sq n w) (hf : Sq n f) (hn : 0 < n ∧ n ≤ 100) : Ev (fun k => spec_l13Come.f k w f) (encS (cameF (roomN w f) n)) := by
  unfold spec_l13Come.f
  rw [hw.len]
  refine Ev.pos (by omega) (Ev.pos (by rw [toNat_nat]; omega) (Ev.bind0 (a := List.replicate n 0) (by rw [toNat_nat]) ?_))
  rw [List.length_replicate]
  obtain ⟨h1, h2⟩ := start_came (roomN w f) n hn.1
  have key := ev_up n (fun k i => spec_l13Come.l0 k w f (List.replicate i (-2) ++ List.replicate (n - i) 0) (n : Int) (i : Int)) (encS (cameF (roomN w f) n)) (fun _ => True) trivial ?_ ?_
  · simpa using key
  · intro _
    refine Ev.succ ?_
    simp only [spec_l13Come.l0]
    refine Ev.neg (by omega) (Ev.pos (by simp; omega) ?_)
    have e : (List.replicate n (-2 : Int) ++ List.replicate (n - n) 0).set (0 : Int).toNat (-1) = encS (startF n) := by
      apply List.ext_getElem (by simp [encS, startF])
      intro i g1 g2
      have hi : i < n := by simpa [encS, startF] using g2
      have e2 := encS_rd (startF n) i (by simp [startF]; exact hi)
      rw [rd_nat _ i g2] at e2
      rw [e2, startF_rd n i hi]
      rw [List.getElem_set]
      by_cases c : i = 0
      · subst c; simp
      · rw [if_neg (show ¬ ((0 : Int).toNat = i) from fun h => c h.symm)]
        simp only [if_neg c]
        rw [if_pos (show (-1 : Int) < 0 by omega)]
        rw [List.getElem_append_left (by simp; exact hi)]; simp
    rw [e]
    exact spec_l13Come_l1 hw hf hn.2 (n + 2) (startF n) [0] _ h1 h2 (by have := unseen_le (startF n) n; simp; omega) (by omega)
  · intro i hi _ hnx
    refine Ev.succ ?_
    simp only [spec_l13Come.l0]
    rw [toNat_nat, w64 (x := (i : Int) + 1) (by omega) (by omega)]
    refine Ev.pos (by omega) (Ev.pos (by omega) (Ev.pos (by simp; omega) ?_))
    have e : (List.replicate i (-2 : Int) ++ List.replicate (n - i) 0).set i (-2) = List.replicate (i + 1) (-2) ++ List.replicate (n - (i + 1)) 0 := by
      rw [List.set_append_right _ _ (by simp), List.length_replicate, Nat.sub_self, show n - i = (n - (i + 1)) + 1 by omega, List.replicate_succ, List.set_cons_zero, List.replicate_succ', List.append_assoc]
      rfl
    rw [e]
    exact hnx trivial

theorem slices_Reverse_go (m : Nat) : ∀ (A M B : List Int), M.length ≤ m → (A ++ M ++ B).length ≤ 1048576 → Ev (fun k => slices_Reverse_int_int.l0 k (A ++ M ++ B) (A.length : Int) ((A.length : Int) + (M.length : Int) - 1)) (A ++ M.reverse ++ B) := by
  induction m using Nat.strongRecOn with
  | _ m ih =>
    intro A M B hm hl
    rcases Nat.lt_or_ge M.length 2 with h2 | h2
    · refine Ev.succ ?_
      simp only [slices_Reverse_int_int.l0]
      refine Ev.neg (by omega) (Ev.to (Ev.now _) ?_)
      match M, h2 with
      | [], _ => rfl
      | [x], _ => rfl
    · obtain ⟨x, M1, rfl⟩ : ∃ x M1, M = x :: M1 := by cases M with | nil => simp at h2 | cons x M1 => exact ⟨x, M1, rfl⟩
      obtain ⟨M2, y, rfl⟩ : ∃ M2 y, M1 = M2 ++ [y] := ⟨M1.dropLast, M1.getLast (by intro h; simp [h] at h2), (List.dropLast_concat_getLast _).symm⟩
      simp only [List.length_append, List.length_cons, List.length_nil] at h2 hm hl
      have hi : A.length < (A ++ x :: (M2 ++ [y]) ++ B).length := by simp <;> omega
      have hj : A.length + 1 + M2.length < (A ++ x :: (M2 ++ [y]) ++ B).length := by simp <;> omega
      have ej : (A.length : Int) + ((x :: (M2 ++ [y])).length : Int) - 1 = ((A.length + 1 + M2.length : Nat) : Int) := by simp <;> omega
      have rx : (A ++ x :: (M2 ++ [y]) ++ B)[A.length] = x := by simp
      have ry : (A ++ x :: (M2 ++ [y]) ++ B)[A.length + 1 + M2.length] = y := by
        rw [List.getElem_append_left (by simp <;> omega), List.getElem_append_right (by omega)]
        rw [List.getElem_cons, dif_neg (by omega), List.getElem_append_right (by omega)]
        simp
      have sw : ((A ++ x :: (M2 ++ [y]) ++ B).set A.length y).set (A.length + 1 + M2.length) x = (A ++ [y]) ++ M2 ++ ([x] ++ B) := by
        rw [List.append_assoc, List.set_append_right _ _ (Nat.le_refl _), Nat.sub_self, List.cons_append, List.set_cons_zero, List.set_append_right _ _ (by omega), show A.length + 1 + M2.length - A.length = M2.length + 1 by omega, List.set_cons_succ, List.append_assoc, List.set_append_right _ _ (Nat.le_refl _), Nat.sub_self]
        simp
      refine Ev.succ ?_
      rw [ej]
      simp only [slices_Reverse_int_int.l0]
      refine Ev.pos (by omega) (Ev.pos (by omega) (Ev.pos (lt_len hj) (Ev.pos (by omega) (Ev.pos (lt_len hi) ?_))))
      rw [rd_nat _ _ hi, rd_nat _ _ hj, rx, ry, toNat_nat, toNat_nat, sw, w64 (by omega) (by omega), w64 (by omega) (by omega)]
      have := ih M2.length (by omega) (A ++ [y]) M2 ([x] ++ B) (Nat.le_refl _) (by simp <;> omega)
      have e1 : ((A ++ [y]).length : Int) = (A.length : Int) + 1 := by simp
      have e2 : ((A ++ [y]).length : Int) + (M2.length : Int) - 1 = ((A.length + 1 + M2.length : Nat) : Int) - 1 := by simp <;> omega
      rw [e2, e1] at this
      refine Ev.to this ?_
      simp
theorem slices_Reverse_ev (l : List Int) (h : l.length ≤ 1048576) : Ev (fun k => slices_Reverse_int_int.f k l) l.reverse := by
  unfold slices_Reverse_int_int.f
  rw [w64 (by omega) (by omega)]
  have := slices_Reverse_go l.length [] l [] (Nat.le_refl _) (by simpa using h)
  simpa using this

def upH (fr : List Int) : Nat → Nat → List Nat
  | 0, x => [x]
  | k + 1, x => if x = 0 then [0] else x :: upH fr k (rd fr (x : Int)).toNat
inductive Way (rm : Nat → Nat → Int) (n : Nat) : Nat → Nat → List Nat → Prop
  | one : 0 < n → Way rm n 0 0 [0]
  | snoc {a b : Nat} {l : List Nat} : Way rm n 0 a l → b < n → b ∉ l → 0 < rm a b → Way rm n 0 b (l ++ [b])
theorem up_ok {rm : Nat → Nat → Int} {n : Nat} {fr : List Int} {rk : Nat → Nat} (hn : 0 < n) (h : Came rm n fr [] rk) : ∀ (k x : Nat), x < n → 0 ≤ rd fr (x : Int) → rk x ≤ k → Way rm n 0 x (upH fr k x).reverse ∧ (∀ y ∈ upH fr k x, rk y ≤ rk x) ∧ (upH fr k x).length ≤ k + 1
  | 0, x, hx, hp, hk => by
    have e : x = 0 := by
      by_cases c : x = 0
      · exact c
      · obtain ⟨a, _, _, _, _, h5⟩ := h.par x hx c hp; omega
    subst e
    exact ⟨Way.one hn, fun y hy => by rw [upH, List.mem_singleton] at hy; subst hy; exact Nat.le_refl _, by simp [upH]⟩
  | k + 1, x, hx, hp, hk => by
    simp only [upH]
    by_cases c : x = 0
    · subst c; rw [if_pos rfl]
      exact ⟨Way.one hn, fun y hy => by rw [List.mem_singleton] at hy; subst hy; exact Nat.le_refl _, by simp⟩
    · rw [if_neg c]
      obtain ⟨a, h1, h2, h3, h4, h5⟩ := h.par x hx c hp
      rw [h2, Int.toNat_natCast]
      obtain ⟨g1, g2, g3⟩ := up_ok hn h k a h1 h3 (by omega)
      refine ⟨?_, fun y hy => ?_, by simp only [List.length_cons]; omega⟩
      · rw [List.reverse_cons]
        refine Way.snoc g1 hx (fun hm => ?_) h4
        have := g2 x (List.mem_reverse.mp hm); omega
      · rcases List.mem_cons.mp hy with hy | hy
        · subst hy; exact Nat.le_refl _
        · have := g2 y hy; omega
def netWay (rm : Nat → Nat → Int) (n : Nat) : List Nat := if rd (cameF rm n) ((n - 1 : Nat) : Int) < 0 then [] else (upH (cameF rm n) n (n - 1)).reverse
theorem netWay_ok (rm : Nat → Nat → Int) (n : Nat) (hn : 0 < n) : netWay rm n = [] ∧ rd (cameF rm n) ((n - 1 : Nat) : Int) < 0 ∨ Way rm n 0 (n - 1) (netWay rm n) ∧ (netWay rm n).length ≤ n + 1 := by
  unfold netWay
  by_cases c : rd (cameF rm n) ((n - 1 : Nat) : Int) < 0
  · left; rw [if_pos c]; exact ⟨rfl, c⟩
  · right
    rw [if_neg c]
    obtain ⟨rk, h, _⟩ := cameF_ok rm n hn
    have := h.rkn (n - 1) (by omega) (by omega)
    obtain ⟨g1, _, g3⟩ := up_ok hn h n (n - 1) (by omega) (by omega) (by omega)
    exact ⟨g1, by rw [List.length_reverse]; exact g3⟩
theorem way_ne {rm : Nat → Nat → Int} {n a b : Nat} {l : List Nat} (h : Way rm n a b l) : l ≠ [] := by
  cases h with
  | one _ => simp
  | snoc _ _ _ _ => simp

theorem impl_nextWay_l0 {rm : Nat → Nat → Int} {n : Nat} {fr : List Int} {rk : Nat → Nat} (hn : 0 < n ∧ n ≤ 100) (h : Came rm n fr [] rk) : ∀ (k x : Nat) (pre : List Int), x < n → 0 ≤ rd fr (x : Int) → rk x ≤ k → pre.length + k ≤ 1000 →
    Ev (fun m => impl_nextWay.l0 m fr (pre ++ [(x : Int)]) (x : Int)) (pre ++ (upH fr k x).map fun y : Nat => (y : Int)).reverse
  | 0, x, pre, hx, hp, hk, hpl => by
    have e : x = 0 := by
      by_cases c : x = 0
      · exact c
      · obtain ⟨a, _, _, _, _, h5⟩ := h.par x hx c hp; omega
    subst e
    refine Ev.succ ?_
    simp only [impl_nextWay.l0]
    refine Ev.pos (by omega) (Ev.bind (slices_Reverse_ev _ (by simp; omega)) (Ev.pos (by first | (simp; done) | (simp; omega)) (Ev.to (Ev.now _) ?_)))
    simp [upH]
  | k + 1, x, pre, hx, hp, hk, hpl => by
    simp only [upH]
    by_cases c : x = 0
    · subst c; rw [if_pos rfl]
      refine Ev.succ ?_
      simp only [impl_nextWay.l0]
      refine Ev.pos (by omega) (Ev.bind (slices_Reverse_ev _ (by simp; omega)) (Ev.pos (by first | (simp; done) | (simp; omega)) (Ev.to (Ev.now _) ?_)))
      simp
    · rw [if_neg c]
      obtain ⟨a, h1, h2, h3, h4, h5⟩ := h.par x hx c hp
      refine Ev.succ ?_
      simp only [impl_nextWay.l0]
      rw [h2, Int.toNat_natCast]
      refine Ev.neg (by omega) (Ev.pos (by omega) (Ev.pos (by rw [h.len]; omega) (Ev.pos (by simp; omega) ?_)))
      refine Ev.to (impl_nextWay_l0 hn h k a (pre ++ [(x : Int)]) h1 h3 (by omega) (by simp; omega)) ?_
      rw [List.map_cons, List.append_assoc]; rfl
theorem impl_nextWay_ev {n : Nat} {w f : List (List Int)} (hw : Sq n w) (hf : Sq n f) (hn : 0 < n ∧ n ≤ 100) : Ev (fun k => impl_nextWay.f k w f) ((netWay (roomN w f) n).map fun y : Nat => (y : Int)) := by
  unfold impl_nextWay.f
  obtain ⟨rk, h, _⟩ := cameF_ok (roomN w f) n hn.1
  rw [hw.len, w64 (by omega) (by omega), show (n : Int) - 1 = ((n - 1 : Nat) : Int) by omega]
  refine Ev.bind (impl_comeTo_ev hw hf hn) (Ev.pos (by omega) (Ev.pos (by rw [h.len]; omega) ?_))
  unfold netWay
  refine Ev.ite (fun c => ?_) (fun c => ?_)
  · rw [if_pos c]; exact Ev.now _
  · rw [if_neg c]
    have := h.rkn (n - 1) (by omega) (by omega)
    refine Ev.to (impl_nextWay_l0 hn h n (n - 1) [] (by omega) (by omega) (by omega) (by simp; omega)) ?_
    rw [List.nil_append, List.map_reverse]

theorem spec_l13Way_l0 {rm : Nat → Nat → Int} {n : Nat} {fr : List Int} {rk : Nat → Nat} (hn : 0 < n ∧ n ≤ 100) (h : Came rm n fr [] rk) : ∀ (k x : Nat) (out : List Int), x < n → 0 ≤ rd fr (x : Int) → rk x ≤ k → out.length + k ≤ 1000 →
    Ev (fun m => spec_l13Way.l0 m (encS fr) (x : Int) out) (((upH fr k x).map fun y : Nat => (y : Int)).reverse ++ out) := by
  have hz : ∀ (out : List Int), out.length ≤ 1000 → Ev (fun m => spec_l13Way.l0 m (encS fr) ((0 : Nat) : Int) out) (0 :: out) := fun out ho => by
    refine Ev.succ ?_
    simp only [spec_l13Way.l0]
    have e := encS_rd fr 0 (by rw [h.len]; omega)
    rw [if_pos rfl] at e
    refine Ev.pos (by omega) (Ev.bind0 (a := [((0 : Nat) : Int)]) rfl (Ev.pos (by simp; omega) (Ev.pos (by omega) (Ev.pos (by rw [encS_len, h.len]; omega) ?_))))
    rw [e]
    refine Ev.succ ?_
    simp only [spec_l13Way.l0]
    exact Ev.neg (by omega) (Ev.now _)
  intro k
  induction k with
  | zero =>
    intro x out hx hp hk ho
    have e : x = 0 := by
      by_cases c : x = 0
      · exact c
      · obtain ⟨a, _, _, _, _, h5⟩ := h.par x hx c hp; omega
    subst e
    exact Ev.to (hz out (by omega)) (by simp [upH])
  | succ k ih =>
    intro x out hx hp hk ho
    simp only [upH]
    by_cases c : x = 0
    · subst c; rw [if_pos rfl]; exact Ev.to (hz out (by omega)) (by simp)
    · rw [if_neg c]
      obtain ⟨a, h1, h2, h3, h4, h5⟩ := h.par x hx c hp
      refine Ev.succ ?_
      simp only [spec_l13Way.l0]
      have e := encS_rd fr x (by rw [h.len]; omega)
      rw [if_neg c, if_neg (by omega), h2] at e
      rw [e, h2, Int.toNat_natCast]
      refine Ev.pos (by omega) (Ev.bind0 (a := [(x : Int)]) rfl (Ev.pos (by simp; omega) (Ev.pos (by omega) (Ev.pos (by rw [encS_len, h.len]; omega) ?_))))
      refine Ev.to (ih a ([(x : Int)] ++ out) h1 h3 (by omega) (by simp; omega)) ?_
      simp
theorem spec_l13Way_ev {n : Nat} {w f : List (List Int)} (hw : Sq n w) (hf : Sq n f) (hn : 0 < n ∧ n ≤ 100) : Ev (fun k => spec_l13Way.f k w f) ((netWay (roomN w f) n).map fun y : Nat => (y : Int)) := by
  unfold spec_l13Way.f
  obtain ⟨rk, h, _⟩ := cameF_ok (roomN w f) n hn.1
  rw [hw.len, w64 (by omega) (by omega), show (n : Int) - 1 = ((n - 1 : Nat) : Int) by omega]
  refine Ev.bind (spec_l13Come_ev hw hf hn) (Ev.pos (by omega) (Ev.pos (by rw [encS_len, h.len]; omega) ?_))
  unfold netWay
  have e := encS_rd (cameF (roomN w f) n) (n - 1) (by rw [h.len]; omega)
  rw [e]
  by_cases c : rd (cameF (roomN w f) n) ((n - 1 : Nat) : Int) < 0
  · have h0 : n - 1 ≠ 0 := fun e0 => by have := h.zero; rw [e0, show ((0 : Nat) : Int) = 0 from rfl, this] at c; omega
    rw [if_neg h0, if_pos c, if_pos c]
    exact Ev.pos rfl (Ev.now _)
  · rw [if_neg c, if_neg c]
    have hr := h.rkn (n - 1) (by omega) (by omega)
    refine Ev.neg ?_ (Ev.to (spec_l13Way_l0 hn h n (n - 1) [] (by omega) (by omega) (by omega) (by simp; omega)) ?_)
    · split <;> omega
    · rw [List.append_nil, List.map_reverse]

def setE (l : List (List Int)) (i j : Nat) (v : Int) : List (List Int) := l.set i ((l.getD i []).set j v)
theorem setE_getD (l : List (List Int)) (i j : Nat) (v : Int) (hi : i < l.length) (x : Nat) : (setE l i j v).getD x [] = if x = i then (l.getD i []).set j v else l.getD x [] := by
  unfold setE
  rw [List.getD_eq_getElem?_getD, List.getElem?_set]
  by_cases e : i = x
  · subst e; rw [if_pos rfl, if_pos rfl, if_pos hi]; rfl
  · rw [if_neg e, if_neg (Ne.symm e), List.getD_eq_getElem?_getD]
theorem setE_ent (l : List (List Int)) (i j : Nat) (v : Int) (hi : i < l.length) (hj : j < (l.getD i []).length) (x y : Nat) : ent (setE l i j v) x y = if x = i ∧ y = j then v else ent l x y := by
  unfold ent
  rw [setE_getD l i j v hi x]
  by_cases e : x = i
  · subst e
    rw [if_pos rfl, rd_setc _ j y v hj]
    by_cases d : y = j
    · rw [if_pos d, if_pos ⟨rfl, d⟩]
    · rw [if_neg d, if_neg (fun z => d z.2)]
  · rw [if_neg e, if_neg (fun z => e z.1)]
theorem setE_len (l : List (List Int)) (i j : Nat) (v : Int) : (setE l i j v).length = l.length := by simp [setE]
theorem setE_row (l : List (List Int)) (i j : Nat) (v : Int) (hi : i < l.length) (x : Nat) : ((setE l i j v).getD x []).length = (l.getD x []).length := by
  rw [setE_getD l i j v hi x]
  split
  · rename_i e; subst e; simp
  · rfl
def pushE (m : Int) (l : List (List Int)) (a b : Nat) : List (List Int) := setE (setE l b a (ent l b a - min m (ent l b a))) a b (ent (setE l b a (ent l b a - min m (ent l b a))) a b + (m - min m (ent l b a)))
theorem pushE_len (m : Int) (l : List (List Int)) (a b : Nat) : (pushE m l a b).length = l.length := by simp [pushE, setE_len]
theorem pushE_row (m : Int) (l : List (List Int)) (a b : Nat) (ha : a < l.length) (hb : b < l.length) (x : Nat) : ((pushE m l a b).getD x []).length = (l.getD x []).length := by
  unfold pushE
  rw [setE_row _ _ _ _ (by rw [setE_len]; exact ha), setE_row _ _ _ _ hb]
theorem pushE_ent (m : Int) (l : List (List Int)) (n a b : Nat) (hl : l.length = n) (hr : ∀ i, i < n → (l.getD i []).length = n) (ha : a < n) (hb : b < n) (hab : a ≠ b) (x y : Nat) :
    ent (pushE m l a b) x y = if x = a ∧ y = b then ent l a b + (m - min m (ent l b a)) else if x = b ∧ y = a then ent l b a - min m (ent l b a) else ent l x y := by
  unfold pushE
  have e1 : ∀ x y, ent (setE l b a (ent l b a - min m (ent l b a))) x y = if x = b ∧ y = a then ent l b a - min m (ent l b a) else ent l x y := fun x y => setE_ent l b a _ (by omega) (by rw [hr b hb]; exact ha) x y
  have e2 := e1 a b
  rw [if_neg (fun z => hab z.1)] at e2
  rw [setE_ent _ a b _ (by rw [setE_len]; omega) (by rw [setE_row _ _ _ _ (by omega), hr a ha]; exact hb), e2, e1 x y]
theorem pushE_val (m : Int) (l : List (List Int)) (n a b : Nat) (hl : l.length = n) (hr : ∀ i, i < n → (l.getD i []).length = n) (ha : a < n) (hb : b < n) (hab : a ≠ b) (h : Nat) (hh : h < n) :
    valAt (ent (pushE m l a b)) n h = valAt (ent l) n h + (if h = a then m else 0) - (if h = b then m else 0) := by
  have key : valAt (ent (pushE m l a b)) n h - valAt (ent l) n h = (if h = a then m else 0) - (if h = b then m else 0) := by
    unfold valAt
    rw [← sumN_sub]
    by_cases e1 : h = a
    · subst e1
      rw [sumN_single _ b n (fun i hi hne => ?_), if_pos hb, if_pos rfl, if_neg hab]
      · rw [pushE_ent m l n h b hl hr ha hb hab, pushE_ent m l n h b hl hr ha hb hab, if_pos ⟨rfl, rfl⟩, if_neg (fun z => hab z.1.symm), if_pos ⟨rfl, rfl⟩]; omega
      · rw [pushE_ent m l n h b hl hr ha hb hab, pushE_ent m l n h b hl hr ha hb hab, if_neg (fun z => hne z.2), if_neg (fun z => hab z.1), if_neg (fun z => hab z.2), if_neg (fun z => hne z.1)]; omega
    · by_cases e2 : h = b
      · subst e2
        rw [sumN_single _ a n (fun i hi hne => ?_), if_pos ha, if_neg e1, if_pos rfl]
        · rw [pushE_ent m l n a h hl hr ha hb hab, pushE_ent m l n a h hl hr ha hb hab, if_neg (fun z => e1 z.1), if_pos ⟨rfl, rfl⟩, if_pos ⟨rfl, rfl⟩]; omega
        · rw [pushE_ent m l n a h hl hr ha hb hab, pushE_ent m l n a h hl hr ha hb hab, if_neg (fun z => e1 z.1), if_neg (fun z => hne z.2), if_neg (fun z => hne z.1), if_neg (fun z => e1 z.2)]; omega
      · rw [sumN_congr (g := fun _ => 0) (fun i hi => ?_), sumN_zero, if_neg e1, if_neg e2]; rfl
        rw [pushE_ent m l n a b hl hr ha hb hab, pushE_ent m l n a b hl hr ha hb hab, if_neg (fun z => e1 z.1), if_neg (fun z => e2 z.1), if_neg (fun z => e2 z.2), if_neg (fun z => e1 z.2)]; omega
  omega
def pushTo (m : Int) (W : List Nat) (l : List (List Int)) : Nat → List (List Int)
  | 0 => l
  | i + 1 => pushE m (pushTo m W l i) (W.getD i 0) (W.getD (i + 1) 0)
def leastRoom (rm : Nat → Nat → Int) (W : List Nat) (c : Int) : Nat → Int
  | 0 => c
  | i + 1 => min (leastRoom rm W c i) (rm (W.getD i 0) (W.getD (i + 1) 0))
theorem leastRoom_le (rm : Nat → Nat → Int) (W : List Nat) (c : Int) : ∀ i, leastRoom rm W c i ≤ c ∧ ∀ j, j < i → leastRoom rm W c i ≤ rm (W.getD j 0) (W.getD (j + 1) 0)
  | 0 => ⟨Int.le_refl _, fun j hj => absurd hj (by omega)⟩
  | i + 1 => by
    obtain ⟨h1, h2⟩ := leastRoom_le rm W c i
    refine ⟨by simp only [leastRoom]; omega, fun j hj => ?_⟩
    simp only [leastRoom]
    by_cases e : j = i
    · subst e; omega
    · have := h2 j (by omega); omega
theorem leastRoom_pos (rm : Nat → Nat → Int) (W : List Nat) (c : Int) (hc : 0 < c) : ∀ i, (∀ j, j < i → 0 < rm (W.getD j 0) (W.getD (j + 1) 0)) → 0 < leastRoom rm W c i
  | 0, _ => hc
  | i + 1, h => by
    have h1 := leastRoom_pos rm W c hc i (fun j hj => h j (by omega))
    have h2 := h i (by omega)
    simp only [leastRoom]; omega
theorem leastRoom_eq (rm : Nat → Nat → Int) (W : List Nat) (c d : Int) : ∀ i, (∀ j, j < i + 1 → rm (W.getD j 0) (W.getD (j + 1) 0) ≤ c ∧ rm (W.getD j 0) (W.getD (j + 1) 0) ≤ d) → leastRoom rm W c (i + 1) = leastRoom rm W d (i + 1)
  | 0, h => by have := h 0 (by omega); simp only [leastRoom]; omega
  | i + 1, h => by
    have ih := leastRoom_eq rm W c d i (fun j hj => h j (by omega))
    rw [show leastRoom rm W c (i + 1 + 1) = min (leastRoom rm W c (i + 1)) (rm (W.getD (i + 1) 0) (W.getD (i + 1 + 1) 0)) from rfl, ih]; rfl

structure IsFl (n : Nat) (w : Nat → Nat → Int) (l : List (List Int)) : Prop where
  len : l.length = n
  row : ∀ i, i < n → (l.getD i []).length = n
  lo : ∀ a b, a < n → b < n → 0 ≤ ent l a b ∧ ent l a b ≤ w a b
theorem push_ok {n : Nat} {w : List (List Int)} {l : List (List Int)} {W : List Nat} {m : Int} (h : IsFl n (ent w) l) (hm : 0 < m) (hW : ∀ i, i < W.length → W.getD i 0 < n) (hnd : ∀ i j, i < W.length → j < W.length → W.getD i 0 = W.getD j 0 → i = j)
    (hroom : ∀ j, j + 1 < W.length → m ≤ roomN w l (W.getD j 0) (W.getD (j + 1) 0)) : ∀ i, i < W.length →
    IsFl n (ent w) (pushTo m W l i) ∧ (∀ x, x < n → valAt (ent (pushTo m W l i)) n x = valAt (ent l) n x + (if x = W.getD 0 0 then m else 0) - (if x = W.getD i 0 then m else 0)) ∧
    (∀ j, i ≤ j → j + 1 < W.length → ent (pushTo m W l i) (W.getD j 0) (W.getD (j + 1) 0) = ent l (W.getD j 0) (W.getD (j + 1) 0) ∧ ent (pushTo m W l i) (W.getD (j + 1) 0) (W.getD j 0) = ent l (W.getD (j + 1) 0) (W.getD j 0))
  | 0, hi => ⟨h, fun x _ => by simp only [pushTo]; omega, fun j _ _ => ⟨rfl, rfl⟩⟩
  | i + 1, hi => by
    obtain ⟨h1, h2, h3⟩ := push_ok h hm hW hnd hroom i (by omega)
    have ha := hW i (by omega)
    have hb := hW (i + 1) hi
    have hab : W.getD i 0 ≠ W.getD (i + 1) 0 := fun e => by have := hnd i (i + 1) (by omega) hi e; omega
    obtain ⟨h4, h5⟩ := h3 i (Nat.le_refl _) hi
    have hr := hroom i hi
    unfold roomN at hr
    have en := pushE_ent m (pushTo m W l i) n (W.getD i 0) (W.getD (i + 1) 0) h1.len h1.row ha hb hab
    have l1 := h1.lo _ _ ha hb
    have l2 := h1.lo _ _ hb ha
    simp only [pushTo]
    refine ⟨⟨by rw [pushE_len]; exact h1.len, fun x hx => by rw [pushE_row _ _ _ _ (by rw [h1.len]; exact ha) (by rw [h1.len]; exact hb)]; exact h1.row x hx, fun x y hx hy => ?_⟩, fun x hx => ?_, fun j hj hj2 => ?_⟩
    · rw [en x y]
      by_cases c : x = W.getD i 0 ∧ y = W.getD (i + 1) 0
      · rw [if_pos c]
        obtain ⟨rfl, rfl⟩ := c
        rw [h4, h5] at *
        omega
      · rw [if_neg c]
        by_cases d : x = W.getD (i + 1) 0 ∧ y = W.getD i 0
        · rw [if_pos d]
          obtain ⟨rfl, rfl⟩ := d
          omega
        · rw [if_neg d]; exact h1.lo x y hx hy
    · rw [pushE_val m (pushTo m W l i) n _ _ h1.len h1.row ha hb hab x hx, h2 x hx]; omega
    · have n1 : W.getD j 0 ≠ W.getD i 0 := fun e => by have := hnd j i (by omega) (by omega) e; omega
      have n2 : W.getD (j + 1) 0 ≠ W.getD i 0 := fun e => by have := hnd (j + 1) i (by omega) (by omega) e; omega
      obtain ⟨g1, g2⟩ := h3 j (by omega) hj2
      rw [en, en, if_neg (fun z => n1 z.1), if_neg (fun z => n2 z.2), if_neg (fun z => n2 z.1), if_neg (fun z => n1 z.2)]
      exact ⟨g1, g2⟩

theorem wl_rd (W : List Nat) (i : Nat) (h : i < W.length) : rd (W.map fun y : Nat => (y : Int)) (i : Int) = ((W.getD i 0 : Nat) : Int) := by
  rw [rd_nat _ i (by simp; exact h)]; simp [h]
theorem fl_sq {n : Nat} {w l : List (List Int)} (hw : Sq n w) (h : IsFl n (ent w) l) : Sq n l := ⟨h.len, h.row, fun i j hi hj => by have h1 := h.lo i j hi hj; have h2 := hw.lo i j hi hj; omega⟩

theorem impl_pushed_l2 {n : Nat} {w l : List (List Int)} {W : List Nat} {m : Int} (hw : Sq n w) (h : IsFl n (ent w) l) (hm : 0 < m ∧ m ≤ 5000) (hW : ∀ i, i < W.length → W.getD i 0 < n) (hnd : ∀ i j, i < W.length → j < W.length → W.getD i 0 = W.getD j 0 → i = j)
    (hroom : ∀ j, j + 1 < W.length → m ≤ roomN w l (W.getD j 0) (W.getD (j + 1) 0)) (hL : 2 ≤ W.length ∧ W.length ≤ 1000) :
    Ev (fun k => impl_pushed.l2 k (W.map fun y : Nat => (y : Int)) l m 1) (pushTo m W l (W.length - 1), m) := by
  have key := ev_up (W.length - 1) (fun k i => impl_pushed.l2 k (W.map fun y : Nat => (y : Int)) (pushTo m W l i) m ((i + 1 : Nat) : Int)) (pushTo m W l (W.length - 1), m) (fun _ => True) trivial ?_ ?_
  · exact key
  · intro _
    refine Ev.succ ?_
    simp only [impl_pushed.l2]
    exact Ev.neg (by rw [List.length_map]; omega) (Ev.now _)
  · intro i hi _ hnx
    have hnx := hnx trivial
    obtain ⟨h1, _, _⟩ := push_ok h hm.1 hW hnd hroom i (by omega)
    have ha := hW i (by omega)
    have hb := hW (i + 1) (by omega)
    have hab : W.getD i 0 ≠ W.getD (i + 1) 0 := fun e => by have := hnd i (i + 1) (by omega) (by omega) e; omega
    have l1 := h1.lo _ _ ha hb
    have l2 := h1.lo _ _ hb ha
    have w1 := hw.lo _ _ ha hb
    have w2 := hw.lo _ _ hb ha
    refine Ev.succ ?_
    simp only [impl_pushed.l2]
    rw [w64 (x := ((i + 1 : Nat) : Int) - 1) (by omega) (by omega), show ((i + 1 : Nat) : Int) - 1 = (i : Int) by omega, w64 (x := ((i + 1 : Nat) : Int) + 1) (by omega) (by omega), show ((i + 1 : Nat) : Int) + 1 = ((i + 1 + 1 : Nat) : Int) by omega]
    rw [wl_rd W i (by omega), wl_rd W (i + 1) (by omega), List.length_map, toNat_nat, toNat_nat]
    simp only [rdL_getD, mn_min]
    rw [show rd ((pushTo m W l i).getD (W.getD (i + 1) 0) []) ((W.getD i 0 : Nat) : Int) = ent (pushTo m W l i) (W.getD (i + 1) 0) (W.getD i 0) from rfl]
    rw [w64 (x := ent (pushTo m W l i) (W.getD (i + 1) 0) (W.getD i 0) - min m (ent (pushTo m W l i) (W.getD (i + 1) 0) (W.getD i 0))) (by omega) (by omega), w64 (x := m - min m (ent (pushTo m W l i) (W.getD (i + 1) 0) (W.getD i 0))) (by omega) (by omega)]
    refine Ev.pos (by omega) (Ev.pos (by omega) (Ev.pos (by omega) (Ev.pos (by omega) (Ev.pos (by omega) (Ev.pos (by rw [h1.len]; omega) (Ev.pos (by omega) (Ev.pos (by rw [h1.row _ hb]; omega) (Ev.bind0 (a := setE (pushTo m W l i) (W.getD (i + 1) 0) (W.getD i 0) (ent (pushTo m W l i) (W.getD (i + 1) 0) (W.getD i 0) - min m (ent (pushTo m W l i) (W.getD (i + 1) 0) (W.getD i 0)))) rfl (Ev.pos (by rw [h1.len]; omega) (Ev.pos (by rw [setE_row _ _ _ _ (by rw [h1.len]; exact hb), h1.row _ ha]; omega) ?_))))))))))
    have e : ent (setE (pushTo m W l i) (W.getD (i + 1) 0) (W.getD i 0) (ent (pushTo m W l i) (W.getD (i + 1) 0) (W.getD i 0) - min m (ent (pushTo m W l i) (W.getD (i + 1) 0) (W.getD i 0)))) (W.getD i 0) (W.getD (i + 1) 0) = ent (pushTo m W l i) (W.getD i 0) (W.getD (i + 1) 0) := by
      rw [setE_ent _ _ _ _ (by rw [h1.len]; exact hb) (by rw [h1.row _ hb]; exact ha), if_neg (fun z => hab z.1)]
    have e2 : pushTo m W l (i + 1) = setE (setE (pushTo m W l i) (W.getD (i + 1) 0) (W.getD i 0) (ent (pushTo m W l i) (W.getD (i + 1) 0) (W.getD i 0) - min m (ent (pushTo m W l i) (W.getD (i + 1) 0) (W.getD i 0)))) (W.getD i 0) (W.getD (i + 1) 0) (ent (pushTo m W l i) (W.getD i 0) (W.getD (i + 1) 0) + (m - min m (ent (pushTo m W l i) (W.getD (i + 1) 0) (W.getD i 0)))) := by
      simp only [pushTo, pushE]; rw [e]
    rw [e2] at hnx
    rw [show rd ((setE (pushTo m W l i) (W.getD (i + 1) 0) (W.getD i 0) (ent (pushTo m W l i) (W.getD (i + 1) 0) (W.getD i 0) - min m (ent (pushTo m W l i) (W.getD (i + 1) 0) (W.getD i 0)))).getD (W.getD i 0) []) ((W.getD (i + 1) 0 : Nat) : Int) = ent (pushTo m W l i) (W.getD i 0) (W.getD (i + 1) 0) from e]
    rw [w64 (x := ent (pushTo m W l i) (W.getD i 0) (W.getD (i + 1) 0) + (m - min m (ent (pushTo m W l i) (W.getD (i + 1) 0) (W.getD i 0)))) (by omega) (by omega)]
    exact hnx
theorem impl_pushed_l1 {n : Nat} {w l o : List (List Int)} {W : List Nat} {c : Int} {r : List (List Int) × Int} (hw : Sq n w) (hl : Sq n l) (hW : ∀ i, i < W.length → W.getD i 0 < n) (hL : 2 ≤ W.length ∧ W.length ≤ 1000) (hr : Ev (fun k => impl_pushed.l2 k (W.map fun y : Nat => (y : Int)) o (leastRoom (roomN w l) W c (W.length - 1)) 1) r) :
    Ev (fun k => impl_pushed.l1 k w l (W.map fun y : Nat => (y : Int)) o c 1) r := by
  have key := ev_up (W.length - 1) (fun k i => impl_pushed.l1 k w l (W.map fun y : Nat => (y : Int)) o (leastRoom (roomN w l) W c i) ((i + 1 : Nat) : Int)) r (fun _ => True) trivial ?_ ?_
  · exact key
  · intro _
    refine Ev.succ ?_
    simp only [impl_pushed.l1]
    exact Ev.neg (by rw [List.length_map]; omega) hr
  · intro i hi _ hnx
    have hnx := hnx trivial
    have ha := hW i (by omega)
    have hb := hW (i + 1) (by omega)
    refine Ev.succ ?_
    simp only [impl_pushed.l1]
    rw [w64 (x := ((i + 1 : Nat) : Int) - 1) (by omega) (by omega), show ((i + 1 : Nat) : Int) - 1 = (i : Int) by omega, w64 (x := ((i + 1 : Nat) : Int) + 1) (by omega) (by omega), show ((i + 1 : Nat) : Int) + 1 = ((i + 1 + 1 : Nat) : Int) by omega]
    rw [wl_rd W i (by omega), wl_rd W (i + 1) (by omega), List.length_map]
    refine Ev.pos (by omega) (Ev.pos (by omega) (Ev.pos (by omega) (Ev.pos (by omega) (Ev.bind0 (impl_room_eq hw hl _ _ ha hb) ?_))))
    rw [mn_min]
    exact hnx
theorem impl_pushed_ev {n : Nat} {w l : List (List Int)} {W : List Nat} (hn : n ≤ 100) (hw : Sq n w) (h : IsFl n (ent w) l) (hW : ∀ i, i < W.length → W.getD i 0 < n) (hnd : ∀ i j, i < W.length → j < W.length → W.getD i 0 = W.getD j 0 → i = j)
    (hroom : ∀ j, j + 1 < W.length → 0 < roomN w l (W.getD j 0) (W.getD (j + 1) 0)) (hL : 2 ≤ W.length ∧ W.length ≤ 1000) :
    Ev (fun k => impl_pushed.f k w l (W.map fun y : Nat => (y : Int))) (pushTo (leastRoom (roomN w l) W 2500 (W.length - 1)) W l (W.length - 1), leastRoom (roomN w l) W 2500 (W.length - 1)) := by
  have hl := fl_sq hw h
  obtain ⟨m1, m2⟩ := leastRoom_le (roomN w l) W 2500 (W.length - 1)
  have mp := leastRoom_pos (roomN w l) W 2500 (by omega) (W.length - 1) (fun j hj => hroom j (by omega))
  unfold impl_pushed.f
  have key := ev_up n (fun k i => impl_pushed.l0 k w l (W.map fun y : Nat => (y : Int)) (l.take i) 2500 l (n : Int) (i : Int)) (pushTo (leastRoom (roomN w l) W 2500 (W.length - 1)) W l (W.length - 1), leastRoom (roomN w l) W 2500 (W.length - 1)) (fun _ => True) trivial ?_ ?_
  · rw [h.len]; simpa using key
  · intro _
    refine Ev.succ ?_
    simp only [impl_pushed.l0]
    refine Ev.neg (by omega) ?_
    rw [List.take_of_length_le (by rw [h.len]; exact Nat.le_refl _)]
    exact impl_pushed_l1 hw hl hW hL (impl_pushed_l2 hw h ⟨mp, by omega⟩ hW hnd (fun j hj => m2 j (by omega)) hL)
  · intro i hi _ hnx
    refine Ev.succ ?_
    simp only [impl_pushed.l0]
    rw [rdL_getD, w64 (x := (i : Int) + 1) (by omega) (by omega)]
    have hr := h.row i hi
    have hc : slices_Clone_int_int.f (l.getD i []) = some (l.getD i []) := by
      unfold slices_Clone_int_int.f
      simp only [Option.bind_some, List.nil_append, List.length_nil]
      rw [if_pos (by omega)]
    refine Ev.pos (by omega) (Ev.pos (by omega) (Ev.pos (by rw [h.len]; omega) (Ev.bind0 hc (Ev.pos (by rw [List.length_take]; omega) ?_))))
    have e : l.take i ++ [l.getD i []] = l.take (i + 1) := by
      have hi' : i < l.length := by rw [h.len]; exact hi
      rw [List.take_succ_eq_append_getElem hi', List.getD_eq_getElem?_getD, List.getElem?_eq_getElem hi']; rfl
    rw [e]
    exact hnx trivial

theorem spec_l13Push_l1 {n : Nat} {w l : List (List Int)} {W : List Nat} {m : Int} (hw : Sq n w) (h : IsFl n (ent w) l) (hm : 0 < m ∧ m ≤ 5000) (hW : ∀ i, i < W.length → W.getD i 0 < n) (hnd : ∀ i j, i < W.length → j < W.length → W.getD i 0 = W.getD j 0 → i = j)
    (hroom : ∀ j, j + 1 < W.length → m ≤ roomN w l (W.getD j 0) (W.getD (j + 1) 0)) (hL : 2 ≤ W.length ∧ W.length ≤ 1000) :
    Ev (fun k => spec_l13Push.l1 k l (W.map fun y : Nat => (y : Int)) m 1) (m, pushTo m W l (W.length - 1)) := by
  have key := ev_up (W.length - 1) (fun k i => spec_l13Push.l1 k (pushTo m W l i) (W.map fun y : Nat => (y : Int)) m ((i + 1 : Nat) : Int)) (m, pushTo m W l (W.length - 1)) (fun _ => True) trivial ?_ ?_
  · exact key
  · intro _
    refine Ev.succ ?_
    simp only [spec_l13Push.l1]
    exact Ev.neg (by rw [List.length_map]; omega) (Ev.now _)
  · intro i hi _ hnx
    have hnx := hnx trivial
    obtain ⟨h1, _, _⟩ := push_ok h hm.1 hW hnd hroom i (by omega)
    have ha := hW i (by omega)
    have hb := hW (i + 1) (by omega)
    have hab : W.getD i 0 ≠ W.getD (i + 1) 0 := fun e => by have := hnd i (i + 1) (by omega) (by omega) e; omega
    have l1 := h1.lo _ _ ha hb
    have l2 := h1.lo _ _ hb ha
    have w1 := hw.lo _ _ ha hb
    have w2 := hw.lo _ _ hb ha
    refine Ev.succ ?_
    simp only [spec_l13Push.l1]
    rw [w64 (x := ((i + 1 : Nat) : Int) - 1) (by omega) (by omega), show ((i + 1 : Nat) : Int) - 1 = (i : Int) by omega, w64 (x := ((i + 1 : Nat) : Int) + 1) (by omega) (by omega), show ((i + 1 : Nat) : Int) + 1 = ((i + 1 + 1 : Nat) : Int) by omega]
    rw [wl_rd W i (by omega), wl_rd W (i + 1) (by omega), List.length_map, toNat_nat, toNat_nat]
    simp only [rdL_getD]
    rw [show rd ((pushTo m W l i).getD (W.getD (i + 1) 0) []) ((W.getD i 0 : Nat) : Int) = ent (pushTo m W l i) (W.getD (i + 1) 0) (W.getD i 0) from rfl]
    refine Ev.pos (by omega) (Ev.pos (by omega) (Ev.pos (by omega) (Ev.pos (by omega) (Ev.pos (by omega) (Ev.pos (by rw [h1.len]; omega) (Ev.pos (by omega) (Ev.pos (by rw [h1.row _ hb]; omega) ?_)))))))
    have e : ∀ v, ent (setE (pushTo m W l i) (W.getD (i + 1) 0) (W.getD i 0) v) (W.getD i 0) (W.getD (i + 1) 0) = ent (pushTo m W l i) (W.getD i 0) (W.getD (i + 1) 0) := fun v => by
      rw [setE_ent _ _ _ _ (by rw [h1.len]; exact hb) (by rw [h1.row _ hb]; exact ha), if_neg (fun z => hab z.1)]
    have e2 : pushTo m W l (i + 1) = setE (setE (pushTo m W l i) (W.getD (i + 1) 0) (W.getD i 0) (ent (pushTo m W l i) (W.getD (i + 1) 0) (W.getD i 0) - min m (ent (pushTo m W l i) (W.getD (i + 1) 0) (W.getD i 0)))) (W.getD i 0) (W.getD (i + 1) 0) (ent (pushTo m W l i) (W.getD i 0) (W.getD (i + 1) 0) + (m - min m (ent (pushTo m W l i) (W.getD (i + 1) 0) (W.getD i 0)))) := by
      simp only [pushTo, pushE]; rw [e]
    rw [e2] at hnx
    have step : ∀ v : Int, v = min m (ent (pushTo m W l i) (W.getD (i + 1) 0) (W.getD i 0)) → Ev (fun k => (some ((pushTo m W l i).set (W.getD (i + 1) 0) (((pushTo m W l i).getD (W.getD (i + 1) 0) []).set (W.getD i 0) (wrap64 (ent (pushTo m W l i) (W.getD (i + 1) 0) (W.getD i 0) - v)))) : Option (List (List Int))).bind fun y =>
        (if ((W.getD i 0 : Nat) : Int) < ((pushTo m W l i).length : Int) then (if ((W.getD (i + 1) 0 : Nat) : Int) < ((y.getD (W.getD i 0) []).length : Int) then (spec_l13Push.l1 k (y.set (W.getD i 0) ((y.getD (W.getD i 0) []).set (W.getD (i + 1) 0) (wrap64 (rd (y.getD (W.getD i 0) []) ((W.getD (i + 1) 0 : Nat) : Int) + wrap64 (m - v))))) (W.map fun y : Nat => (y : Int)) m ((i + 1 + 1 : Nat) : Int)) else none) else none)) (m, pushTo m W l (W.length - 1)) := fun v hv => by
      subst hv
      rw [w64 (x := ent (pushTo m W l i) (W.getD (i + 1) 0) (W.getD i 0) - min m (ent (pushTo m W l i) (W.getD (i + 1) 0) (W.getD i 0))) (by omega) (by omega), w64 (x := m - min m (ent (pushTo m W l i) (W.getD (i + 1) 0) (W.getD i 0))) (by omega) (by omega)]
      refine Ev.bind0 (a := setE (pushTo m W l i) (W.getD (i + 1) 0) (W.getD i 0) (ent (pushTo m W l i) (W.getD (i + 1) 0) (W.getD i 0) - min m (ent (pushTo m W l i) (W.getD (i + 1) 0) (W.getD i 0)))) rfl (Ev.pos (by rw [h1.len]; omega) (Ev.pos (by rw [setE_row _ _ _ _ (by rw [h1.len]; exact hb), h1.row _ ha]; omega) ?_))
      rw [show rd ((setE (pushTo m W l i) (W.getD (i + 1) 0) (W.getD i 0) (ent (pushTo m W l i) (W.getD (i + 1) 0) (W.getD i 0) - min m (ent (pushTo m W l i) (W.getD (i + 1) 0) (W.getD i 0)))).getD (W.getD i 0) []) ((W.getD (i + 1) 0 : Nat) : Int) = ent (pushTo m W l i) (W.getD i 0) (W.getD (i + 1) 0) from e _]
      rw [w64 (x := ent (pushTo m W l i) (W.getD i 0) (W.getD (i + 1) 0) + (m - min m (ent (pushTo m W l i) (W.getD (i + 1) 0) (W.getD i 0)))) (by omega) (by omega)]
      exact hnx
    refine Ev.ite (fun c => ?_) (fun c => ?_)
    · exact step m (by omega)
    · exact step (ent (pushTo m W l i) (W.getD (i + 1) 0) (W.getD i 0)) (by omega)
theorem spec_l13Push_ev {n : Nat} {w l : List (List Int)} {W : List Nat} (hw : Sq n w) (h : IsFl n (ent w) l) (hW : ∀ i, i < W.length → W.getD i 0 < n) (hnd : ∀ i j, i < W.length → j < W.length → W.getD i 0 = W.getD j 0 → i = j)
    (hroom : ∀ j, j + 1 < W.length → 0 < roomN w l (W.getD j 0) (W.getD (j + 1) 0)) (hL : 2 ≤ W.length ∧ W.length ≤ 1000) :
    Ev (fun k => spec_l13Push.f k w l (W.map fun y : Nat => (y : Int))) (leastRoom (roomN w l) W 100 (W.length - 1), pushTo (leastRoom (roomN w l) W 100 (W.length - 1)) W l (W.length - 1)) := by
  have hl := fl_sq hw h
  obtain ⟨m1, m2⟩ := leastRoom_le (roomN w l) W 100 (W.length - 1)
  have mp := leastRoom_pos (roomN w l) W 100 (by omega) (W.length - 1) (fun j hj => hroom j (by omega))
  have hend := spec_l13Push_l1 hw h ⟨mp, by omega⟩ hW hnd (fun j hj => m2 j (by omega)) hL
  unfold spec_l13Push.f
  have key := ev_up (W.length - 1) (fun k i => spec_l13Push.l0 k w l (W.map fun y : Nat => (y : Int)) (leastRoom (roomN w l) W 100 i) ((i + 1 : Nat) : Int)) (leastRoom (roomN w l) W 100 (W.length - 1), pushTo (leastRoom (roomN w l) W 100 (W.length - 1)) W l (W.length - 1)) (fun _ => True) trivial ?_ ?_
  · exact key
  · intro _
    refine Ev.succ ?_
    simp only [spec_l13Push.l0]
    exact Ev.neg (by rw [List.length_map]; omega) hend
  · intro i hi _ hnx
    have hnx := hnx trivial
    have ha := hW i (by omega)
    have hb := hW (i + 1) (by omega)
    refine Ev.succ ?_
    simp only [spec_l13Push.l0]
    rw [w64 (x := ((i + 1 : Nat) : Int) - 1) (by omega) (by omega), show ((i + 1 : Nat) : Int) - 1 = (i : Int) by omega, w64 (x := ((i + 1 : Nat) : Int) + 1) (by omega) (by omega), show ((i + 1 : Nat) : Int) + 1 = ((i + 1 + 1 : Nat) : Int) by omega]
    rw [wl_rd W i (by omega), wl_rd W (i + 1) (by omega), List.length_map]
    refine Ev.pos (by omega) (Ev.pos (by omega) (Ev.pos (by omega) (Ev.pos (by omega) (Ev.bind0 (spec_l13Room_eq hw hl _ _ ha hb) ?_))))
    have es : leastRoom (roomN w l) W 100 (i + 1) = min (leastRoom (roomN w l) W 100 i) (roomN w l (W.getD i 0) (W.getD (i + 1) 0)) := rfl
    refine Ev.ite (fun c => ?_) (fun c => ?_)
    · rw [show leastRoom (roomN w l) W 100 (i + 1) = roomN w l (W.getD i 0) (W.getD (i + 1) 0) by omega] at hnx
      exact hnx
    · rw [show leastRoom (roomN w l) W 100 (i + 1) = leastRoom (roomN w l) W 100 i by omega] at hnx
      exact hnx

theorem getD_snoc (l : List Nat) (b i : Nat) : (l ++ [b]).getD i 0 = if i < l.length then l.getD i 0 else if i = l.length then b else 0 := by
  rw [List.getD_eq_getElem?_getD]
  by_cases c : i < l.length
  · rw [if_pos c, List.getElem?_append_left c, List.getD_eq_getElem?_getD]
  · rw [if_neg c, List.getElem?_append_right (by omega)]
    by_cases d : i = l.length
    · subst d; simp
    · rw [if_neg d]
      obtain ⟨k, hk⟩ : ∃ k, i - l.length = k + 1 := ⟨i - l.length - 1, by omega⟩
      rw [hk]; rfl
theorem getD_mem (l : List Nat) (i : Nat) (h : i < l.length) : l.getD i 0 ∈ l := by
  rw [List.getD_eq_getElem?_getD, List.getElem?_eq_getElem h]; exact List.getElem_mem h
structure WayP (rm : Nat → Nat → Int) (n b : Nat) (W : List Nat) : Prop where
  ne : 0 < W.length
  first : W.getD 0 0 = 0
  last : W.getD (W.length - 1) 0 = b
  lt : ∀ i, i < W.length → W.getD i 0 < n
  nd : ∀ i j, i < W.length → j < W.length → W.getD i 0 = W.getD j 0 → i = j
  room : ∀ j, j + 1 < W.length → 0 < rm (W.getD j 0) (W.getD (j + 1) 0)
theorem way_props {rm : Nat → Nat → Int} {n a b : Nat} {W : List Nat} (h : Way rm n a b W) : a = 0 → WayP rm n b W := by
  induction h with
  | one hn => exact fun _ => ⟨by simp, rfl, rfl, fun i hi => by simp at hi; subst hi; exact hn, fun i j hi hj _ => by simp at hi hj; omega, fun j hj => by simp at hj⟩
  | @snoc a b l h1 hb hnm hr ih =>
    intro e
    have p := ih rfl
    have hlen : (l ++ [b]).length = l.length + 1 := by simp
    have hne := p.ne
    refine ⟨by omega, ?_, ?_, fun i hi => ?_, fun i j hi hj hij => ?_, fun j hj => ?_⟩
    · rw [getD_snoc, if_pos p.ne]; exact p.first
    · rw [hlen, Nat.add_sub_cancel, getD_snoc, if_neg (by omega), if_pos rfl]
    · rw [getD_snoc]
      by_cases c : i < l.length
      · rw [if_pos c]; exact p.lt i c
      · rw [if_neg c, if_pos (by omega)]; exact hb
    · rw [getD_snoc, getD_snoc] at hij
      by_cases c : i < l.length
      · rw [if_pos c] at hij
        by_cases d : j < l.length
        · rw [if_pos d] at hij; exact p.nd i j c d hij
        · rw [if_neg d, if_pos (by omega)] at hij
          exact absurd (hij ▸ getD_mem l i c) hnm
      · rw [if_neg c, if_pos (by omega)] at hij
        by_cases d : j < l.length
        · rw [if_pos d] at hij
          exact absurd (hij.symm ▸ getD_mem l j d) hnm
        · omega
    · rw [getD_snoc, getD_snoc, if_pos (by omega)]
      by_cases c : j + 1 < l.length
      · rw [if_pos c]; exact p.room j c
      · rw [if_neg c, if_pos (by omega), show j = l.length - 1 by omega, p.last]; exact hr

def Cons (n : Nat) (l : List (List Int)) : Prop := ∀ a, 0 < a → a < n - 1 → valAt (ent l) n a = 0
def pushW (w l : List (List Int)) (n : Nat) : List (List Int) := pushTo (leastRoom (roomN w l) (netWay (roomN w l) n) 100 ((netWay (roomN w l) n).length - 1)) (netWay (roomN w l) n) l ((netWay (roomN w l) n).length - 1)
def mostH (w : List (List Int)) (n : Nat) : Nat → List (List Int) → List (List Int)
  | 0, l => l
  | k + 1, l => if netWay (roomN w l) n = [] then l else mostH w n k (pushW w l n)
theorem netWay_props (rm : Nat → Nat → Int) (n : Nat) (hn : 2 ≤ n) (h : netWay rm n ≠ []) : WayP rm n (n - 1) (netWay rm n) ∧ 2 ≤ (netWay rm n).length ∧ (netWay rm n).length ≤ n + 1 := by
  rcases netWay_ok rm n (by omega) with ⟨h1, _⟩ | ⟨h1, h2⟩
  · exact absurd h1 h
  · have p := way_props h1 rfl
    refine ⟨p, ?_, h2⟩
    have h3 := p.ne
    by_cases c : (netWay rm n).length = 1
    · have h4 := p.last
      rw [c, Nat.sub_self, p.first] at h4; omega
    · omega
theorem room_le {n : Nat} {w l : List (List Int)} (hb : ∀ a b, a < n → b < n → ent w a b ≤ 50) (h : IsFl n (ent w) l) (a b : Nat) (ha : a < n) (hb' : b < n) : roomN w l a b ≤ 100 := by
  unfold roomN
  have h1 := h.lo a b ha hb'
  have h2 := h.lo b a hb' ha
  have h3 := hb a b ha hb'
  have h4 := hb b a hb' ha
  omega
theorem pushW_ok {n : Nat} {w l : List (List Int)} (hn : 2 ≤ n) (h : IsFl n (ent w) l) (hc : Cons n l) (hne : netWay (roomN w l) n ≠ []) :
    IsFl n (ent w) (pushW w l n) ∧ Cons n (pushW w l n) ∧ valAt (ent (pushW w l n)) n 0 = valAt (ent l) n 0 + leastRoom (roomN w l) (netWay (roomN w l) n) 100 ((netWay (roomN w l) n).length - 1) ∧ 0 < leastRoom (roomN w l) (netWay (roomN w l) n) 100 ((netWay (roomN w l) n).length - 1) := by
  obtain ⟨p, h2, h3⟩ := netWay_props _ n hn hne
  unfold pushW
  obtain ⟨m1, m2⟩ := leastRoom_le (roomN w l) (netWay (roomN w l) n) 100 ((netWay (roomN w l) n).length - 1)
  have mp := leastRoom_pos (roomN w l) (netWay (roomN w l) n) 100 (by omega) ((netWay (roomN w l) n).length - 1) (fun j hj => p.room j (by omega))
  obtain ⟨g1, g2, _⟩ := push_ok h mp p.lt p.nd (fun j hj => m2 j (by omega)) ((netWay (roomN w l) n).length - 1) (by omega)
  refine ⟨g1, fun a ha ha2 => ?_, ?_, mp⟩
  · rw [g2 a (by omega), p.first, p.last, if_neg (by omega), if_neg (by omega), hc a ha ha2]; rfl
  · rw [g2 0 (by omega), p.first, p.last, if_pos rfl, if_neg (by omega)]; omega
theorem val_le {n : Nat} {w l : List (List Int)} (hb : ∀ a b, a < n → b < n → ent w a b ≤ 50) (h : IsFl n (ent w) l) (hn : 0 < n) : valAt (ent l) n 0 ≤ 50 * (n : Int) := by
  have gen : ∀ m, sumN (fun _ => (50 : Int)) m = 50 * (m : Int) := by
    intro m
    induction m with
    | zero => rfl
    | succ m ih => simp only [sumN, ih]; omega
  rw [← gen n]
  exact sumN_le fun k hk => by
    have h1 := h.lo 0 k hn hk
    have h2 := h.lo k 0 hk hn
    have h3 := hb 0 k hn hk
    omega
theorem mostH_ok {n : Nat} {w : List (List Int)} (hn : 2 ≤ n) (hb : ∀ a b, a < n → b < n → ent w a b ≤ 50) : ∀ (K : Nat) (l : List (List Int)), IsFl n (ent w) l → Cons n l → 50 * (n : Int) < valAt (ent l) n 0 + (K : Int) →
    IsFl n (ent w) (mostH w n K l) ∧ Cons n (mostH w n K l) ∧ netWay (roomN w (mostH w n K l)) n = []
  | 0, l, h, _, hk => by have := val_le hb h (by omega); omega
  | K + 1, l, h, hc, hk => by
    simp only [mostH]
    by_cases c : netWay (roomN w l) n = []
    · rw [if_pos c]; exact ⟨h, hc, c⟩
    · rw [if_neg c]
      obtain ⟨g1, g2, g3, g4⟩ := pushW_ok hn h hc c
      exact mostH_ok hn hb K _ g1 g2 (by rw [g3]; omega)

theorem impl_mostFlow_l1 {n : Nat} {w : List (List Int)} (hn : 2 ≤ n ∧ n ≤ 100) (hw : Sq n w) (hb : ∀ a b, a < n → b < n → ent w a b ≤ 50) : ∀ (K : Nat) (l : List (List Int)), IsFl n (ent w) l → Cons n l → 50 * (n : Int) < valAt (ent l) n 0 + (K : Int) →
    Ev (fun k => impl_mostFlow.l1 k w l) (mostH w n K l)
  | 0, l, h, _, hk => by have := val_le hb h (by omega); omega
  | K + 1, l, h, hc, hk => by
    have hl := fl_sq hw h
    refine Ev.succ ?_
    simp only [impl_mostFlow.l1, mostH]
    refine Ev.bind (impl_nextWay_ev hw hl ⟨by omega, by omega⟩) ?_
    by_cases c : netWay (roomN w l) n = []
    · rw [if_pos c, c]
      exact Ev.pos (by simp) (Ev.now _)
    · rw [if_neg c]
      obtain ⟨p, h2, h3⟩ := netWay_props _ n hn.1 c
      obtain ⟨g1, g2, g3, g4⟩ := pushW_ok hn.1 h hc c
      refine Ev.neg (by rw [List.length_map]; omega) (Ev.bind (impl_pushed_ev (by omega) hw h p.lt p.nd p.room ⟨h2, by omega⟩) ?_)
      have e : leastRoom (roomN w l) (netWay (roomN w l) n) 2500 ((netWay (roomN w l) n).length - 1) = leastRoom (roomN w l) (netWay (roomN w l) n) 100 ((netWay (roomN w l) n).length - 1) := by
        obtain ⟨t, ht⟩ : ∃ t, (netWay (roomN w l) n).length - 1 = t + 1 := ⟨(netWay (roomN w l) n).length - 2, by omega⟩
        rw [ht]
        refine leastRoom_eq _ _ _ _ t (fun j hj => ?_)
        have := room_le hb h _ _ (p.lt j (by omega)) (p.lt (j + 1) (by omega))
        omega
      rw [e]
      exact impl_mostFlow_l1 hn hw hb K (pushW w l n) g1 g2 (by rw [g3]; omega)
theorem zero_fl {n : Nat} {w : List (List Int)} (h0 : ∀ a b, a < n → b < n → 0 ≤ ent w a b) : IsFl n (ent w) (List.replicate n (List.replicate n 0)) ∧ Cons n (List.replicate n (List.replicate n 0)) ∧ valAt (ent (List.replicate n (List.replicate n 0))) n 0 = 0 := by
  have row : ∀ i, i < n → (List.replicate n (List.replicate n (0 : Int))).getD i [] = List.replicate n 0 := fun i hi => by
    rw [List.getD_eq_getElem?_getD, List.getElem?_replicate, if_pos hi]; rfl
  have en : ∀ a b, a < n → b < n → ent (List.replicate n (List.replicate n 0)) a b = 0 := fun a b ha hb => by
    unfold ent
    rw [row a ha, rd_nat _ b (by simp; exact hb)]; simp
  have va : ∀ a, a < n → valAt (ent (List.replicate n (List.replicate n 0))) n a = 0 := fun a ha => by
    unfold valAt
    rw [sumN_congr (g := fun _ => 0) (fun k hk => by rw [en a k ha hk, en k a hk ha]; rfl), sumN_zero]
  refine ⟨⟨by simp, fun i hi => by rw [row i hi]; simp, fun a b ha hb => by rw [en a b ha hb]; have := h0 a b ha hb; omega⟩, fun a ha ha2 => va a (by omega), ?_⟩
  by_cases c : 0 < n
  · exact va 0 c
  · obtain rfl : n = 0 := by omega
    rfl
def mostF (w : List (List Int)) (n : Nat) : List (List Int) := mostH w n (50 * n + 1) (List.replicate n (List.replicate n 0))
theorem mostF_ok {n : Nat} {w : List (List Int)} (hn : 2 ≤ n) (h0 : ∀ a b, a < n → b < n → 0 ≤ ent w a b ∧ ent w a b ≤ 50) : IsFl n (ent w) (mostF w n) ∧ Cons n (mostF w n) ∧ netWay (roomN w (mostF w n)) n = [] := by
  obtain ⟨z1, z2, z3⟩ := zero_fl (fun a b ha hb => (h0 a b ha hb).1)
  exact mostH_ok hn (fun a b ha hb => (h0 a b ha hb).2) _ _ z1 z2 (by rw [z3]; omega)
theorem impl_mostFlow_ev {n : Nat} {w : List (List Int)} (hn : 2 ≤ n ∧ n ≤ 100) (hw : Sq n w) (h0 : ∀ a b, a < n → b < n → 0 ≤ ent w a b ∧ ent w a b ≤ 50) : Ev (fun k => impl_mostFlow.f k w) (mostF w n) := by
  obtain ⟨z1, z2, z3⟩ := zero_fl (fun a b ha hb => (h0 a b ha hb).1)
  unfold impl_mostFlow.f
  rw [hw.len]
  have key := ev_up n (fun k i => impl_mostFlow.l0 k w (List.replicate i (List.replicate n 0)) (n : Int) (i : Int)) (mostF w n) (fun _ => True) trivial ?_ ?_
  · simpa using key
  · intro _
    refine Ev.succ ?_
    simp only [impl_mostFlow.l0]
    exact Ev.neg (by omega) (impl_mostFlow_l1 hn hw (fun a b ha hb => (h0 a b ha hb).2) _ _ z1 z2 (by rw [z3]; omega))
  · intro i hi _ hnx
    refine Ev.succ ?_
    simp only [impl_mostFlow.l0]
    rw [hw.len, toNat_nat, w64 (x := (i : Int) + 1) (by omega) (by omega), ← List.replicate_succ']
    exact Ev.pos (by omega) (Ev.pos (by omega) (Ev.pos (by omega) (Ev.pos (by simp; omega) (hnx trivial))))

theorem spec_l13Most_l1 {n : Nat} {w : List (List Int)} (hn : 2 ≤ n ∧ n ≤ 100) (hw : Sq n w) (hb : ∀ a b, a < n → b < n → ent w a b ≤ 50) : ∀ (K : Nat) (l : List (List Int)), IsFl n (ent w) l → Cons n l → 50 * (n : Int) < valAt (ent l) n 0 + (K : Int) →
    Ev (fun k => spec_l13Most.l1 k w l ((netWay (roomN w l) n).map fun y : Nat => (y : Int))) (mostH w n K l)
  | 0, l, h, _, hk => by have := val_le hb h (by omega); omega
  | K + 1, l, h, hc, hk => by
    refine Ev.succ ?_
    simp only [spec_l13Most.l1, mostH]
    by_cases c : netWay (roomN w l) n = []
    · rw [if_pos c, c]
      exact Ev.neg (by simp) (Ev.now _)
    · rw [if_neg c]
      obtain ⟨p, h2, h3⟩ := netWay_props _ n hn.1 c
      obtain ⟨g1, g2, g3, g4⟩ := pushW_ok hn.1 h hc c
      refine Ev.pos (by rw [List.length_map]; omega) (Ev.bind (spec_l13Push_ev hw h p.lt p.nd p.room ⟨h2, by omega⟩) ?_)
      exact Ev.bind (spec_l13Way_ev hw (fl_sq hw g1) ⟨by omega, by omega⟩) (spec_l13Most_l1 hn hw hb K (pushW w l n) g1 g2 (by rw [g3]; omega))
theorem spec_l13Most_ev {n : Nat} {w : List (List Int)} (hn : 2 ≤ n ∧ n ≤ 100) (hw : Sq n w) (h0 : ∀ a b, a < n → b < n → 0 ≤ ent w a b ∧ ent w a b ≤ 50) : Ev (fun k => spec_l13Most.f k w) (mostF w n) := by
  obtain ⟨z1, z2, z3⟩ := zero_fl (fun a b ha hb => (h0 a b ha hb).1)
  unfold spec_l13Most.f
  rw [hw.len]
  have key := ev_up n (fun k i => spec_l13Most.l0 k w (List.replicate i (List.replicate n 0)) (n : Int) (i : Int)) (mostF w n) (fun _ => True) trivial ?_ ?_
  · simpa using key
  · intro _
    refine Ev.succ ?_
    simp only [spec_l13Most.l0]
    exact Ev.neg (by omega) (Ev.bind (spec_l13Way_ev hw (fl_sq hw z1) ⟨by omega, by omega⟩) (spec_l13Most_l1 hn hw (fun a b ha hb => (h0 a b ha hb).2) _ _ z1 z2 (by rw [z3]; omega)))
  · intro i hi _ hnx
    refine Ev.succ ?_
    simp only [spec_l13Most.l0]
    rw [hw.len, toNat_nat, w64 (x := (i : Int) + 1) (by omega) (by omega), ← List.replicate_succ']
    exact Ev.pos (by omega) (Ev.pos (by omega) (Ev.pos (by omega) (Ev.pos (by simp; omega) (hnx trivial))))

def netRow (n : Nat) (r : List Int) : Bool := decide (r.length = n) && allIn r 0 50
def rowsOk (l : List (List Int)) : Bool := (decide (2 ≤ l.length) && decide (l.length ≤ 8)) && l.all (netRow l.length)
def diagOk (l : List (List Int)) (i : Nat) : Bool := decide (ent l i i = 0)
def netOk (l : List (List Int)) : Bool := rowsOk l && allTo (diagOk l) l.length
theorem rowsOk_sq {l : List (List Int)} (h : rowsOk l = true) : (2 ≤ l.length ∧ l.length ≤ 8) ∧ Sq l.length l ∧ ∀ a b, a < l.length → b < l.length → 0 ≤ ent l a b ∧ ent l a b ≤ 50 := by
  unfold rowsOk at h
  simp only [Bool.and_eq_true, decide_eq_true_eq, List.all_eq_true] at h
  obtain ⟨h1, h2⟩ := h
  have row : ∀ i (hi : i < l.length), (l.getD i []).length = l.length ∧ ∀ x ∈ l.getD i [], 0 ≤ x ∧ x ≤ 50 := fun i hi => by
    have e : l.getD i [] = l[i] := by rw [List.getD_eq_getElem?_getD, List.getElem?_eq_getElem hi]; rfl
    have h3 := h2 l[i] (List.getElem_mem hi)
    unfold netRow at h3
    simp only [Bool.and_eq_true, decide_eq_true_eq] at h3
    rw [e]
    exact ⟨h3.1, (allIn_iff _ _ _).mp h3.2⟩
  have bd : ∀ a b, a < l.length → b < l.length → 0 ≤ ent l a b ∧ ent l a b ≤ 50 := fun a b ha hb => by
    obtain ⟨r1, r2⟩ := row a ha
    unfold ent
    rw [rd_nat _ b (by omega)]
    exact r2 _ (List.getElem_mem _)
  exact ⟨h1, ⟨rfl, fun i hi => (row i hi).1, fun a b ha hb => by have := bd a b ha hb; omega⟩, bd⟩

theorem impl_areRows_ev (l : List (List Int)) (h : l.length ≤ 1048576) (hg : ∀ r ∈ l, r.length ≤ 1048576) : Ev (fun k => impl_areRows.f k l) (rowsOk l) := by
  unfold impl_areRows.f sl1_ContainsFunc.f sl3_IndexFunc.f
  refine Ev.bind0 (impl_within_eq _ _ _) (Ev.ite (fun h1 => ?_) (fun h1 => ?_))
  · obtain ⟨j, hj, hev⟩ := ev_indexFunc l (rd_L2 l) (fun i hi => rdL_nat l i hi) (fun k x => impl_areRows_1.f k x l) (fun r => !netRow l.length r) (fun x hx => by
      unfold impl_areRows_1.f netRow
      refine Ev.ite (fun c => ?_) (fun c => ?_)
      · refine Ev.to (Ev.bind (impl_allWithin_ev x 0 50 (by have := hg x hx; omega)) (Ev.now _)) ?_
        rw [decide_eq_true (by omega)]; simp
      · refine Ev.to (Ev.now _) ?_
        rw [decide_eq_false (by omega)]; simp) (fun k i => sl3_IndexFunc.l0 k l (l.length : Int) i l) (fun k i => rfl) (by omega)
    refine Ev.to (Ev.bind (Ev.bind hev (Ev.now _)) (Ev.now _)) ?_
    rw [hj, any_not_all]; unfold rowsOk
    simp only [Bool.and_eq_true, decide_eq_true_eq] at h1
    rw [decide_eq_true (show 2 ≤ l.length by omega), decide_eq_true (show l.length ≤ 8 by omega)]; simp
  · refine Ev.to (Ev.now _) ?_
    unfold rowsOk
    simp only [Bool.and_eq_true, decide_eq_true_eq] at h1
    have : (decide (2 ≤ l.length) && decide (l.length ≤ 8)) = false := by
      simp only [Bool.and_eq_false_iff, decide_eq_false_iff_not]; omega
    rw [this]; rfl

theorem impl_GoodNet_ev (l : List (List Int)) (h : l.length ≤ 1048576) (hg : ∀ r ∈ l, r.length ≤ 1048576) : Ev (fun k => impl_GoodNet.f k l) (netOk l) := by
  unfold impl_GoodNet.f
  refine Ev.bind (impl_areRows_ev l h hg) (Ev.ite (fun hr => ?_) (fun hr => Ev.to (Ev.now _) (by unfold netOk; rw [Bool.eq_false_iff.mpr hr]; rfl)))
  obtain ⟨h1, sq, _⟩ := rowsOk_sq hr
  have key := ev_all l.length (diagOk l) (fun k i => impl_GoodNet.l0 k l (l.length : Int) (i : Int)) true false ?_ ?_ ?_ (allTo (diagOk l) l.length) (allTo_iff _ _)
  · refine Ev.to key ?_
    unfold netOk
    rw [hr]
    cases allTo (diagOk l) l.length <;> rfl
  · intro r i hi hp hn
    refine Ev.succ ?_
    simp only [impl_GoodNet.l0]
    rw [rdL_getD, w64 (x := (i : Int) + 1) (by omega) (by omega)]
    refine Ev.pos (by omega) (Ev.pos (by omega) (Ev.pos (by omega) (Ev.pos (by rw [sq.row i hi]; omega) (Ev.pos ?_ hn))))
    exact of_decide_eq_true hp
  · intro i hi hp
    refine Ev.succ ?_
    simp only [impl_GoodNet.l0]
    rw [rdL_getD]
    refine Ev.pos (by omega) (Ev.pos (by omega) (Ev.pos (by omega) (Ev.pos (by rw [sq.row i hi]; omega) (Ev.neg ?_ (Ev.now _)))))
    exact of_decide_eq_false hp
  · intro _
    refine Ev.succ ?_
    simp only [impl_GoodNet.l0]
    exact Ev.neg (by omega) (Ev.now _)

theorem spec_l13Rows_ev (l : List (List Int)) (h : l.length ≤ 1048576) (hg : ∀ r ∈ l, r.length ≤ 1048576) : Ev (fun k => spec_l13Rows.f k l) (rowsOk l) := by
  unfold spec_l13Rows.f
  have key := ev_all l.length (fun i => netRow l.length (l.getD i [])) (fun k i => spec_l13Rows.l0 k l l (l.length : Int) (i : Int)) (decide (2 ≤ l.length) && decide (l.length ≤ 8)) false ?_ ?_ ?_ (l.all (netRow l.length)) ?_
  · refine Ev.to key ?_
    unfold rowsOk
    cases l.all (netRow l.length) <;> simp
  · intro r i hi hp hn
    have e : l.getD i [] = l[i] := by rw [List.getD_eq_getElem?_getD, List.getElem?_eq_getElem hi]; rfl
    unfold netRow at hp
    simp only [Bool.and_eq_true, decide_eq_true_eq] at hp
    refine Ev.succ ?_
    simp only [spec_l13Rows.l0]
    rw [rdL_getD, w64 (x := (i : Int) + 1) (by omega) (by omega)]
    refine Ev.pos (by omega) (Ev.pos (by omega) (Ev.pos (by omega) (Ev.pos (by omega) (Ev.bind (spec_l1All_ev _ 0 50 ?_) (Ev.pos hp.2 hn)))))
    rw [e]; have := hg l[i] (List.getElem_mem hi); omega
  · intro i hi hp
    have e : l.getD i [] = l[i] := by rw [List.getD_eq_getElem?_getD, List.getElem?_eq_getElem hi]; rfl
    refine Ev.succ ?_
    simp only [spec_l13Rows.l0]
    rw [rdL_getD]
    refine Ev.pos (by omega) (Ev.pos (by omega) (Ev.pos (by omega) (Ev.ite (fun c => ?_) (fun _ => Ev.now _))))
    unfold netRow at hp
    rw [decide_eq_true (show (l.getD i []).length = l.length by omega), Bool.true_and] at hp
    refine Ev.bind (spec_l1All_ev _ 0 50 ?_) (Ev.neg (by rw [hp]; simp) (Ev.now _))
    rw [e]; have := hg l[i] (List.getElem_mem hi); omega
  · intro _
    refine Ev.succ ?_
    simp only [spec_l13Rows.l0]
    refine Ev.neg (by omega) (Ev.bind0 (spec_l1In_eq _ _ _) (Ev.to (Ev.now _) ?_))
    congr 1 <;> (apply Bool.eq_iff_iff.mpr; simp only [decide_eq_true_eq]; omega)
  · rw [List.all_eq_true]
    constructor
    · intro ha i hi
      have e : l.getD i [] = l[i] := by rw [List.getD_eq_getElem?_getD, List.getElem?_eq_getElem hi]; rfl
      rw [e]; exact ha _ (List.getElem_mem hi)
    · intro ha r hr
      obtain ⟨i, hi, rfl⟩ := List.mem_iff_getElem.mp hr
      have e : l.getD i [] = l[i] := by rw [List.getD_eq_getElem?_getD, List.getElem?_eq_getElem hi]; rfl
      have := ha i hi
      rw [e] at this; exact this
theorem spec_GoodNet_ev (l : List (List Int)) (h : l.length ≤ 1048576) (hg : ∀ r ∈ l, r.length ≤ 1048576) : Ev (fun k => spec_GoodNet.f k l) (netOk l) := by
  unfold spec_GoodNet.f
  refine Ev.bind (spec_l13Rows_ev l h hg) (Ev.ite (fun hr => ?_) (fun hr => Ev.to (Ev.now _) (by unfold netOk; rw [Bool.eq_false_iff.mpr hr]; rfl)))
  obtain ⟨h1, sq, _⟩ := rowsOk_sq hr
  have key := ev_all l.length (diagOk l) (fun k i => spec_GoodNet.l0 k l (l.length : Int) (i : Int)) true false ?_ ?_ ?_ (allTo (diagOk l) l.length) (allTo_iff _ _)
  · refine Ev.to key ?_
    unfold netOk
    rw [hr]
    cases allTo (diagOk l) l.length <;> rfl
  · intro r i hi hp hn
    refine Ev.succ ?_
    simp only [spec_GoodNet.l0]
    rw [rdL_getD, w64 (x := (i : Int) + 1) (by omega) (by omega)]
    refine Ev.pos (by omega) (Ev.pos (by omega) (Ev.pos (by omega) (Ev.pos (by rw [sq.row i hi]; omega) (Ev.pos ?_ hn))))
    exact of_decide_eq_true hp
  · intro i hi hp
    refine Ev.succ ?_
    simp only [spec_GoodNet.l0]
    rw [rdL_getD]
    refine Ev.pos (by omega) (Ev.pos (by omega) (Ev.pos (by omega) (Ev.pos (by rw [sq.row i hi]; omega) (Ev.neg ?_ (Ev.now _)))))
    exact of_decide_eq_false hp
  · intro _
    refine Ev.succ ?_
    simp only [spec_GoodNet.l0]
    exact Ev.neg (by omega) (Ev.now _)
end Go.Proofs.Ytpagpbamdpllnaa.Pure
