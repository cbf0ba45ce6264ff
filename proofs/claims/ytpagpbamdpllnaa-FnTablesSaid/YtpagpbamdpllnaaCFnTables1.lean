/- With more places there is no less to gain, in whatever order offers stand, and without one no more, for drawn offers: no condition but the statement's own. -/
import Derived.Test.YtpagpbamdpllnaaCFnTables0
set_option linter.unusedVariables false
set_option linter.unusedSimpArgs false
namespace Go.Proofs.Ytpagpbamdpllnaa.Print
open Go.RowKit Go.Proofs.YtpagpbamdpllnaaW.PrintWords Go.Proofs.YtpagpbamdpllnaaW.PrintLast Go.Proofs.YtpagpbamdpllnaaW.PrintMore
attribute [local go_sem] max2_int min2_int max_two min_two max_three min_three max_four min_four

mutual
def impl_tables.l0:Nat→List (List Int)→List (S53)→Int→Int→Option ((List (List Int)))
  |0,_,_,_,_=>none
  |k+1,x5,x15,x16,x17=>if x17<x16 then (if 0≤x17 then (if x17<(x15.length:Int) then (if x17<(x5.length:Int) then ((slices_Clone_int_int.f (rd_L2 x5 x17)).bind fun t110=>(impl_tables.l1 k x5 x17 t110 x15 x16 x17 (t110.length:Int) 0 ((rd_T53 x15 x17).f0))) else (none)) else (none)) else (none)) else (some x5)
def impl_tables.l1:Nat→List (List Int)→Int→List Int→List (S53)→Int→Int→Int→Int→List Int→Option ((List (List Int)))
  |0,_,_,_,_,_,_,_,_,_=>none
  |k+1,x5,x6,x8,x15,x16,x17,x28,x29,x109000=>if x29<x28 then (impl_tables.l2 k x5 x6 x8 x29 1 x15 x16 x17 x28 x29 x109000) else (if x5.length<5864062014805 then (impl_tables.l0 k (x5 ++ [x8]) x15 x16 (wrap64 (x17+1))) else (none))
def impl_tables.l2:Nat→List (List Int)→Int→List Int→Int→Int→List (S53)→Int→Int→Int→Int→List Int→Option ((List (List Int)))
  |0,_,_,_,_,_,_,_,_,_,_,_=>none
  |k+1,x5,x6,x8,x9,x10,x15,x16,x17,x28,x29,x109000=>if x10≤(mn x9 (x109000.length:Int)) then (if 0≤x9 then (if x9<(x8.length:Int) then (if 0≤x6 then (if x6<(x5.length:Int) then (if 0≤(wrap64 (x9 - x10)) then (if (wrap64 (x9 - x10))<((rd_L2 x5 x6).length:Int) then ((impl_Offer_gain.f x109000 x10).bind fun t119=>(impl_tables.l2 k x5 x6 (x8.set (x9:Int).toNat (mx (rd x8 x9) (wrap64 ((rd (rd_L2 x5 x6) (wrap64 (x9 - x10)))+t119)))) x9 (wrap64 (x10+1)) x15 x16 x17 x28 x29 x109000)) else (none)) else (none)) else (none)) else (none)) else (none)) else (none)) else (impl_tables.l1 k x5 x6 x8 x15 x16 x17 x28 (wrap64 (x29+1)) x109000)
end
def impl_tables.f (k:Nat) (l0:List (S53)) (a1:Int):Option ((List (List Int))):=if 0≤(wrap64 (a1+1)) then (if (wrap64 (a1+1):Int).toNat≤35184372088832 then (impl_tables.l0 k (([(List.replicate (wrap64 (a1+1):Int).toNat 0)]:List (List Int))) l0 (l0.length:Int) 0) else (none)) else (none)
def impl_tables.T12:Bool×List (List Nat×List Nat):=(true,[([],[]),([],[]),([],[]),([],[]),([2,3],[2,3]),([4],[4]),([],[]),([],[]),([6,7],[6,7]),([8],[8]),([],[]),([],[]),([10,11],[10,11]),([9,12],[9,12]),([13],[13]),([],[]),([],[]),([15,16],[15,16]),([14,17],[14,17]),([5,18],[5,18]),([0,1,0,1,2,3,4,5,6,7,8,9,10,11,12,13,14,15,16,17,18,19],[0,1]),([20,19,17,0,1,2,3,4,5,6,7,8,9,10,11,12,13,14,15,16,17,18,19],[19,20])])
def impl_tables.B12:List Nat:=[0,0,0,0,12,28,0,0,192,448,0,0,3072,8128,16320,0,0,98304,262080,524284,1048575,2097151]
theorem impl_tables.tab12:rtab .any (opsOf Try.f141 12)=impl_tables.T12:=by kernel_rfl
theorem impl_tables.bits12:waitsOk impl_tables.T12.2 impl_tables.B12=true:=by kernel_rfl
set_option maxHeartbeats 8000000 in
set_option maxRecDepth 100000 in
theorem impl_tables.calls (k:Nat) (A0:Option Addr) (c0:Nat) (l0:List (S53)) (a1:Int) (r:List (List Int)) (w:World) (hr0:Kd.C k53 w A0 l0.length l0) (hc0:l0.length≤c0) (h:impl_tables.f k l0 a1=some r) :
    Calls Try.prog 141 #[.slice A0 l0.length c0,.int .i64 a1] w fun e w'=>∃ v0_:Value,e= .returned (v0_)∧Kd.N (Kd.slice 3 (Kd.int .i64)) 23 w' w.heap.size (fun k_=>(w.heap.size≤k_)) v0_ r∧Below w.heap.size w w':=by
  have hu53:=Try.underlying53;have HR0:=aM hr0;have HC0:=aM hc0;clear hr0 hc0;have HB:=aM (Below.refl w.heap.size w);have H:(if 0≤(wrap64 (a1+1)) then (if (wrap64 (a1+1):Int).toNat≤35184372088832 then (impl_tables.l0 k (([(List.replicate (wrap64 (a1+1):Int).toNat 0)]:List (List Int))) l0 (l0.length:Int) 0) else (none)) else (none))=some r:=h;clear h;obtain ⟨ji3,hji3⟩:∃ j_:Int,(wrap64 (a1+1))=j_:=⟨_,rfl⟩;replace H:(if 0≤(ji3) then (if (ji3:Int).toNat≤35184372088832 then (impl_tables.l0 k (([(List.replicate (ji3:Int).toNat 0)]:List (List Int))) l0 (l0.length:Int) 0) else (none)) else (none))=some r:=by first|(rw [hji3] at H;exact H)|(simp only [hji3] at H ⊢;exact H)
  have hji3w:(IntKind.i64.wrap (a1+1))=ji3:=(i64_w _).trans hji3;by_cases c4:0≤(ji3)
  ·rw [if_pos c4] at H;have c4b0:=eq_true c4;have c4b1:decide (0≤(ji3))=true:=decide_eq_true c4;clear c4;by_cases c5:(ji3:Int).toNat≤35184372088832
   ·rw [if_pos c5] at H;have c5b0:=eq_true c5;have c5b1:decide ((ji3:Int).toNat≤35184372088832)=true:=decide_eq_true c5;clear c5;obtain ⟨y101,hy101⟩:∃ y_:List Int,y_=(List.replicate (ji3:Int).toNat 0):=⟨_,rfl⟩;replace H:(impl_tables.l0 k (([y101]:List (List Int))) l0 (l0.length:Int) 0)=some r:=by first|(rw [hy101];with_reducible exact H)|(have H2_:=(Option.bind_some _ _).symm.trans H;rw [hy101];with_reducible exact H2_)|(have H2_:=(Option.bind_some _ _).symm.trans H;with_reducible exact H2_)|with_reducible exact H|(rw [hy101];exact H)|exact H
    have Ny101:=aM hy101;clear hy101;obtain ⟨y104,hy104⟩:∃ y_:List (List Int),y_=(([y101]:List (List Int))):=⟨_,rfl⟩;replace H:(impl_tables.l0 k y104 l0 (l0.length:Int) 0)=some r:=by first|(rw [hy104];with_reducible exact H)|(have H2_:=(Option.bind_some _ _).symm.trans H;rw [hy104];with_reducible exact H2_)|(have H2_:=(Option.bind_some _ _).symm.trans H;with_reducible exact H2_)|with_reducible exact H|(rw [hy104];exact H)|exact H
    have Ny104:=aM hy104;clear hy104;have H':=aM H;clear H;go_enter Try.func141,Try.ntmps141;go_wp2_with (first|((with_reducible refine gate_dst (N:=13) rfl ?_);refine Kd.R_make (Kd.int .i64) _ 3 rfl (N:=13) rfl 23 _ _ rfl ji3 rfl rfl Try.underlying23 (.int .i64 0) 8 info3 rfl (by decide) (by omega) 0 (ok:=fun _=>True) (okp:=fun _=>True) rfl (fun _ hk=>hk) trivial (of_decide_eq_true (by first|(with_reducible assumption)|assumption)) (Nat.le_trans (Nat.mul_le_mul_right _ (of_decide_eq_true (by first|(with_reducible assumption)|assumption):ji3.toNat≤35184372088832)) (by omega)) (Below.refl _ _) (Nat.le_refl _) ?_;intro v102 w6 ho7 hb hg_ hnew_;clear hg_ hnew_;(first|rw [←Ny101.out] at ho7|(simp only [Int.reduceToNat] at ho7;rw [←Ny101.out] at ho7));have n0_:=aM (Kd.R_lower (Kd.R_newM (M:=fun k_=>(w.heap.size≤k_)) ho7 (Qh (by repeat (first|(with_reducible first|exact HB.out|apply Qc|apply Qa|apply Qb)|exact HB.out))) (fun k_ h_=>h_)) (Qh (by repeat (first|(with_reducible first|exact HB.out|apply Qc|apply Qa|apply Qb)|exact HB.out))));have n1_:=aM (Qi (by repeat (first|(with_reducible first|exact HB.out|apply Qc|apply Qa|apply Qb)|exact HB.out)) hb);clear HB;have HO103:=n0_;have HB:=n1_;clear n0_ n1_;clear hb ho7;obtain ⟨Ao8,co8,eo8⟩:=Kd.R_slice HO103.out;subst eo8)|((with_reducible refine gate_dst (N:=14) rfl ?_);refine Kd.N_lit (Kd.slice 3 (Kd.int .i64)) _ 23 ?hg (N':=14) ?hd (xs:=([y101]:List (List Int))) (inner:=[.slice Ao8 y101.length co8]) (ok:=(fun k_=>(w.heap.size≤k_))) (okp:=(fun k_=>(w.heap.size≤k_))) ?hr ?hp (fun _ hk=>hk) ((show ∀ k_,w6.heap.size≤k_→(fun k_=>(w.heap.size≤k_)) k_ from fun k_ hk=>(Nat.le_trans (Qh (by repeat (first|(with_reducible first|exact HB.out|apply Qc|apply Qa|apply Qb)|exact HB.out))) hk)) _ (Nat.le_refl _)) (Below.refl _ _) (Nat.le_refl _) (by simp) ?_;(case hd=>rfl);(case hg=>rfl);(case hr=>first|(go_simp;done)|(go_simp;rfl));(case hp=>exact (Reps.one (show Kd.FK (Kd.slice 3 (Kd.int .i64)) _ _ y101 [.slice Ao8 y101.length co8] from (Kd.FK_slice_mk (Kd.R_reads' (Kd.R_mono (ok':=(fun k_=>(w.heap.size≤k_))) (HO103.out) (fun k_ hk=>hk.1))).2.1 (Kd.R_F (Kd.R_mono (ok':=(fun k_=>(w.heap.size≤k_))) (HO103.out) (fun k_ hk=>hk.1))))) (Reps.none _ _)));intro v105 w9 ho10 hb hg_ hnew_;clear hg_ hnew_;(first|rw [←Ny104.out] at ho10|(simp only [Int.reduceToNat] at ho10;rw [←Ny104.out] at ho10));have n0_:=aM (Kd.N_lower ho10 (Qh (by repeat (first|(with_reducible first|exact HB.out|apply Qc|apply Qa|apply Qb)|exact HB.out))));have n1_:=aM (Qi (by repeat (first|(with_reducible first|exact HB.out|apply Qc|apply Qa|apply Qb)|exact HB.out)) hb);clear HB;clear HO103;have HO106:=n0_;have HB:=n1_;clear n0_ n1_;clear hb ho10))
    go_loopg [5,17] k (fun kq v5 v17 w'=>∃ (x5_1:List (List Int)) (x17_1:Int),v17= .int .i64 x17_1∧Aside0 (impl_tables.l0 kq x5_1 l0 (l0.length:Int) x17_1=some r)∧Aside0 (kq≤k)∧Aside0 (Kd.N (Kd.slice 3 (Kd.int .i64)) 23 w' w.heap.size (fun k_=>(w.heap.size≤k_)) v5 x5_1)∧Aside0 (Below w.heap.size w w'))
    case atStart=>exact ⟨(y104),(0),(by first|rfl|(simp;done)|(simp [*];done)),H',⟨Nat.le_refl _⟩,⟨by (with_reducible repeat (first|apply Kd.Ql|apply Kd.Qm|apply Kd.N_drew));exact HO106.out⟩,⟨by repeat (first|(with_reducible first|exact HB.out|apply Qc|apply Qa|apply Qb)|exact HB.out)⟩⟩
    case round=>
     clear H';(try clear c1);(try clear p2);(try clear c4);(try clear c4b0);(try clear c4b1);(try clear c5);(try clear c5b0);(try clear c5b1);(try clear p6);obtain ⟨x5_1,x17_1,rfl,HA,HK1,HO_5,HB⟩:=hrel
     cases gk with
     |zero=>exact absurd HA.out (by simp [impl_tables.l0])
     |succ k1=>
      have H:=HA.out;clear HA;simp only [impl_tables.l0] at H;by_cases c11:x17_1<(l0.length:Int)
      ·rw [if_pos c11] at H;have c11b0:decide (x17_1<(l0.length:Int))=true:=decide_eq_true c11;clear c11;by_cases c12:0≤x17_1
       ·rw [if_pos c12] at H;have c12b0:decide (0≤x17_1)=true:=decide_eq_true c12;clear c12;by_cases c13:x17_1<(l0.length:Int)
        ·rw [if_pos c13] at H;have c13b0:decide (x17_1<(l0.length:Int))=true:=decide_eq_true c13;clear c13;by_cases c14:x17_1<(x5_1.length:Int)
         ·rw [if_pos c14] at H;have c14b0:decide (x17_1<(x5_1.length:Int))=true:=decide_eq_true c14;clear c14;replace H:=Option.bind_eq_some_iff.mp H;obtain ⟨t110,A150,H⟩:=H;replace H:(impl_tables.l1 k1 x5_1 x17_1 t110 l0 (l0.length:Int) x17_1 (t110.length:Int) 0 ((rd_T53 l0 x17_1).f0))=some r:=H;have A15:=aM A150;clear A150;have H':=aM H;clear H;have p107:0≤(x17_1:Int):=of_decide_eq_true (by first|(with_reducible assumption)|assumption);have q107:x17_1<(l0.length:Int):=of_decide_eq_true (by first|(with_reducible assumption)|assumption);obtain ⟨ad107,A107_0,c107_0,e107,hx107_0,hl107_0,hi107_0⟩:=at_T53 HR0.out x17_1 p107 q107
          cases e107
          replace hx107_0:=(HB.out.cell (aI w _ hx107_0)).trans hx107_0;have HR107_0:=aM hi107_0;have HC107_0:=aM hl107_0;clear hi107_0 hl107_0;replace p107:=eq_true p107;replace q107:=eq_true q107;go_wp2_with (first|((with_reducible refine gate_dst (N:=7) rfl ?_);refine box_event ?hg (N:=7) ?hd (cs:=#[.slice none 0 0]) (t:=53) ?hr ?_;(case hd=>rfl);(case hg=>rfl);(case hr=>first|(go_simp;done)|(go_simp;rfl));intro gb108 hg w16 hbox hb;have n0_:=aM (Kd.N_below (Kd.N_elderB (by (with_reducible repeat (first|apply Kd.Ql|apply Kd.Qm|apply Kd.N_drew));exact HO_5.out) gb108 (Nat.le_of_eq hg.symm)) hb);have n1_:=aM (Qi (by repeat (first|(with_reducible first|exact HB.out|apply Qc|apply Qa|apply Qb)|exact HB.out)) hb);have n2_:=aM (hbox);have n3_:=aM ((by rw [hg];exact (Qh (by repeat (first|(with_reducible first|exact HB.out|apply Qc|apply Qa|apply Qb)|exact HB.out))):w.heap.size≤gb108));have n4_:=aM ((by rw [hg];exact (Qh (by repeat (first|(with_reducible first|exact HB.out|apply Qc|apply Qa|apply Qb)|exact HB.out))):w.heap.size≤gb108));clear HO_5;clear HB;have HO_5:=n0_;have HB:=n1_;have BK108:=n2_;have GW108:=n3_;have GE108:=n4_;clear n0_ n1_ n2_ n3_ n4_;clear hb hbox hg;have hcz17_0:w16.cell? ⟨gb108,0,none⟩=some (.slice none 0 0):=(blk_cell BK108.out 0).trans rfl;have hfz17_0:=blk_frozen BK108.out 0)|((with_reducible refine gate_store (t:=53) (p:=7) rfl ?_);refine store_event (t:=53) (p:=7) (v:=?vo_w18) (w1:=(w16.setCell ⟨gb108,0,none⟩ (.slice A107_0 ((rd_T53 l0 x17_1).f0).length c107_0))) ?hg ?ho ?hn ?hr ?_;(case ho=>rfl);(case hg=>rfl);(case hn=>rfl);(case hr=>first|(go_simp;done)|(go_simp;rfl));intro w18 hw;have n0_:Aside0 (Kd.N (Kd.slice 3 (Kd.int .i64)) 23 w18 w.heap.size (fun k_=>(w.heap.size≤k_)∧k_≠gb108) u5 x5_1):=⟨(by rw [hw];exact (by (with_reducible repeat (first|apply Kd.Ql|apply Kd.Qm|apply Kd.N_drew));exact Kd.N_mono (Kd.N_far (p:=⟨gb108,0,none⟩) (Kd.N_mono HO_5.out (fun k_ hk=>(⟨hk,hk.2⟩:_∧k_≠gb108))) (fun _ hk=>hk.2) (.slice A107_0 ((rd_T53 l0 x17_1).f0).length c107_0)) (fun _ hk=>⟨hk.1.1,hk.1.2⟩)))⟩;have n1_:Aside0 (w18.heap[gb108]? = some (.cells #[.slice A107_0 ((rd_T53 l0 x17_1).f0).length c107_0] 53 (0,0))):=⟨(by rw [hw];exact (by (with_reducible repeat (first|apply Qf|apply Qg|apply Qe));refine blk_put (cs:=#[.slice none 0 0]) ?_ 0 _ rfl;(with_reducible repeat (first|apply Qf|apply Qg|apply Qe));exact BK108.out))⟩;have n2_:Aside0 (Below w.heap.size w w18):=⟨(by rw [hw];exact (by repeat (first|(with_reducible first|exact HB.out|apply Qc|apply Qa|apply Qb|refine Qd ?_ GE108.out)|exact HB.out)))⟩;clear hw;clear HO_5;clear BK108;clear HB;have HO_5:=n0_;have BK108:=n1_;have HB:=n2_;clear n0_ n1_ n2_;obtain ⟨Ao19,co19,eo19⟩:=Kd.N_slice HO_5.out;subst eo19;have p109:0≤(x17_1:Int):=of_decide_eq_true (by first|(with_reducible assumption)|assumption);have q109:x17_1<(x5_1.length:Int):=of_decide_eq_true (by first|(with_reducible assumption)|assumption);obtain ⟨ad109,A109_0,c109_0,e109,hx109_0,hl109_0,hi109_0⟩:=at_L2 (Kd.Qs HO_5.out).2.2 x17_1 p109 q109;cases e109;obtain ⟨ce109,hce109,hMe109,hcc109⟩:=Kd.N_get HO_5.out [] x17_1 p109 (by first|exact q109|exact of_decide_eq_true (by first|(with_reducible assumption)|assumption)|(have e_:=(Kd.Qs HO_5.out).1;omega));obtain ⟨ua109_0,uc109_0,rfl,ul109_0,ge109_0⟩:=Kd.FK_slice_open hMe109;have hv109_0:=hcc109 0 _ rfl;rw [Nat.add_zero,show ((Kd.slice 3 (Kd.int .i64))).sz=1 from rfl,Nat.mul_one] at hv109_0;replace hv109_0:=Option.some.inj (hv109_0.symm.trans hx109_0);injection hv109_0 with hva_ hvn_ hvc_;rw [hva_] at ge109_0;rw [hvc_] at ul109_0;have HL109_0:=aM (show Kd.V (Kd.int .i64) 3 _ w.heap.size _ _ (rd_L2 x5_1 x17_1) from Kd.V_mk ul109_0 ge109_0);clear hva_ hvn_ hvc_ ge109_0 ul109_0;clear hcc109 hce109;have HR109_0:=aM hi109_0;have HC109_0:=aM hl109_0;clear hi109_0 hl109_0;replace p109:=eq_true p109;replace q109:=eq_true q109)|((with_reducible refine Qn (f:=219) rfl ?_);refine goesL_ (some 26) rfl rfl Try.func219 (by kernel_rfl) rfl #[.slice A109_0 (rd_L2 x5_1 x17_1).length c109_0] rfl (by (try simp only [aD,aE,aF]);first|done|rfl|(simp only [aG,aH];rfl)) ?_;(with_reducible refine (slices_Clone_int_int.calls _ _ (rd_L2 x5_1 x17_1) t110 _ ?side1 ?side2 A15.out).mono ?_);(case side1=>repeat (first|exact (by repeat (first|(with_reducible exact HR109_0.out)|(with_reducible refine Kd.Qj ?_ _)|(with_reducible refine Kd.Qk ?_ _)|(with_reducible refine Kd.C_drew ?_)|exact HR109_0.out))|(with_reducible refine Kd.Qj ?_ _)|(with_reducible refine Kd.Qk ?_ _)|(with_reducible refine Kd.C_drew ?_)));(case side2=>exact HC109_0.out);rintro e w20 ⟨v111,rfl,ho0,hb⟩;refine ⟨_,rfl,?_⟩;have n0_:=aM (Kd.N_elder' (by (with_reducible repeat (first|apply Kd.Ql|apply Kd.Qm|apply Kd.N_drew));exact HO_5.out) (Kd.R_base ho0) hb);have n1_:=aM (Kd.V_elder' (by (with_reducible repeat (first|apply Kd.V_alloc|apply Kd.V_drewN|apply Kd.V_drew));exact HL109_0.out) (Kd.R_base ho0) hb);have n2_:=aM (Kd.R_lower (Kd.R_newM (M:=fun k_=>(w.heap.size≤k_)) ho0 (Qh (by repeat (first|(with_reducible first|exact HB.out|apply Qc|apply Qa|apply Qb|refine Qd ?_ GE108.out)|exact HB.out))) (fun k_ h_=>h_)) (Qh (by repeat (first|(with_reducible first|exact HB.out|apply Qc|apply Qa|apply Qb|refine Qd ?_ GE108.out)|exact HB.out))));have n3_:=aM (blk_below (g:=gb108) (o:= .cells #[.slice A107_0 ((rd_T53 l0 x17_1).f0).length c107_0] 53 (0,0)) (by (with_reducible repeat (first|apply Qf|apply Qg|apply Qe));exact BK108.out) hb);have n4_:=aM (Kd.C_below (by repeat (first|(with_reducible exact HR109_0.out)|(with_reducible refine Kd.Qj ?_ _)|(with_reducible refine Kd.Qk ?_ _)|(with_reducible refine Kd.C_drew ?_)|exact HR109_0.out)) hb);have n5_:=aM (Qi (by repeat (first|(with_reducible first|exact HB.out|apply Qc|apply Qa|apply Qb|refine Qd ?_ GE108.out)|exact HB.out)) hb);clear HO_5;clear HL109_0;clear BK108;clear HR109_0;clear HB;have HO_5:=n0_;have HL109_0:=n1_;have HO112:=n2_;have BK108:=n3_;have HR109_0:=n4_;have HB:=n5_;clear n0_ n1_ n2_ n3_ n4_ n5_;(try clear hb);(try clear hb2);(try clear hk);(try clear hi);(try clear ho0);obtain ⟨Ao21,co21,eo21⟩:=Kd.R_slice HO112.out;subst eo21))
          go_loopg [29] k1 (fun kq v29 w'=>∃ (x8_2:List Int) (x29_2:Int),v29= .int .i64 x29_2∧Aside0 (impl_tables.l1 kq x5_1 x17_1 x8_2 l0 (l0.length:Int) x17_1 (t110.length:Int) x29_2 ((rd_T53 l0 x17_1).f0)=some r)∧Aside0 (kq≤k1)∧Aside0 (Kd.N (Kd.slice 3 (Kd.int .i64)) 23 w' w.heap.size (fun k_=>(w.heap.size≤k_)∧some k_≠((.slice Ao21 t110.length co21):Value).ownBlock∧k_≠gb108) (.slice (some ad109) x5_1.length co19) x5_1)∧Aside0 (Kd.R (Kd.int .i64) 3 w' w.heap.size (fun k_=>(w.heap.size≤k_)) (.slice Ao21 t110.length co21) x8_2)∧Aside0 (w'.heap[gb108]? = some (.cells #[(.slice A107_0 ((rd_T53 l0 x17_1).f0).length c107_0)] 53 (0,0)))∧Aside0 (Below w.heap.size w w'))
          case atStart=>exact ⟨(t110),(0),(by first|rfl|(simp;done)|(simp [*];done)),H',⟨Nat.le_refl _⟩,⟨by (with_reducible repeat (first|apply Kd.Ql|apply Kd.Qm|apply Kd.N_drew));exact Kd.N_mono HO_5.out (fun _ hk=>⟨hk.1.1,⟨hk.2,hk.1.2⟩⟩)⟩,⟨by (with_reducible repeat (first|apply Kd.R_alloc|apply Kd.R_drewN|apply Kd.R_drew));exact Kd.R_mono HO112.out (fun _ hk=>hk.1)⟩,⟨by (with_reducible repeat (first|apply Qf|apply Qg|apply Qe));exact BK108.out⟩,⟨by repeat (first|(with_reducible first|exact HB.out|apply Qc|apply Qa|apply Qb|refine Qd ?_ GE108.out)|exact HB.out)⟩⟩
          case round=>
           clear H';(try clear c1);(try clear p1);(try clear q1);(try clear hx1);(try clear c2);(try clear p2);(try clear c4);(try clear c4b0);(try clear c4b1);(try clear c5);(try clear c5b0);(try clear c5b1);(try clear p6);(try clear c10);(try clear p10);(try clear q10);(try clear hx10);(try clear c11);(try clear c11b0);(try clear c12);(try clear c12b0);(try clear c13);(try clear c13b0);(try clear c14);(try clear c14b0);(try clear c21);(try clear hcz17_0);(try clear hfz17_0);(try clear hx107_0);(try clear hx109_0);(try clear p107);(try clear p109);(try clear p2);(try clear p6);(try clear q107);(try clear q109);obtain ⟨x8_2,x29_2,rfl,HA,HK2,HO_5,HO_8,BK108,HB⟩:=hrel;have hl8_2:=(Kd.R_reads' HO_8.out).1;rw [hl8_2] at HO_8;(try simp only [hl8_2]);(try simp only [hl8_2] at BK108);(try simp only [hl8_2] at HO_5)
           cases gk with
           |zero=>exact absurd HA.out (by simp [impl_tables.l1])
           |succ k2=>
            have H:=HA.out;clear HA;simp only [impl_tables.l1] at H;by_cases c22:x29_2<(t110.length:Int)
            ·rw [if_pos c22] at H;have c22b0:decide (x29_2<(t110.length:Int))=true:=decide_eq_true c22;have c22b0l:=c22b0;(try simp only [hl8_2] at c22b0l);clear c22;have H':=aM H;clear H;go_wp2;go_loopg [10] k2 (fun kq v10 w'=>∃ (x8_3:List Int) (x10_3:Int),v10= .int .i64 x10_3∧Aside0 (impl_tables.l2 kq x5_1 x17_1 x8_3 x29_2 x10_3 l0 (l0.length:Int) x17_1 (t110.length:Int) x29_2 ((rd_T53 l0 x17_1).f0)=some r)∧Aside0 (kq≤k2)∧Aside0 (Kd.N (Kd.slice 3 (Kd.int .i64)) 23 w' w.heap.size (fun k_=>(w.heap.size≤k_)∧some k_≠((.slice Ao21 x8_2.length co21):Value).ownBlock∧k_≠gb108) (.slice (some ad109) x5_1.length co19) x5_1)∧Aside0 (Kd.R (Kd.int .i64) 3 w' w.heap.size (fun k_=>(w.heap.size≤k_)) (.slice Ao21 x8_2.length co21) x8_3)∧Aside0 (w'.heap[gb108]? = some (.cells #[(.slice A107_0 ((rd_T53 l0 x17_1).f0).length c107_0)] 53 (0,0)))∧Aside0 (Below w.heap.size w w'))
             case atStart=>exact ⟨(x8_2),(1),(by first|rfl|(simp;done)|(simp [*];done)),H',⟨Nat.le_refl _⟩,⟨by (try simp only [hl8_2]);(with_reducible repeat (first|apply Kd.Ql|apply Kd.Qm|apply Kd.N_drew));exact HO_5.out⟩,⟨by (try simp only [hl8_2]);(with_reducible repeat (first|apply Kd.R_alloc|apply Kd.R_drewN|apply Kd.R_drew));exact HO_8.out⟩,⟨by (try simp only [hl8_2]);(with_reducible repeat (first|apply Qf|apply Qg|apply Qe));exact BK108.out⟩,⟨by repeat (first|(with_reducible first|exact HB.out|apply Qc|apply Qa|apply Qb|refine Qd ?_ GE108.out)|exact HB.out)⟩⟩
             case round=>
              clear H';(try clear c1);(try clear p1);(try clear q1);(try clear hx1);(try clear c2);(try clear p2);(try clear c4);(try clear c4b0);(try clear c4b1);(try clear c5);(try clear c5b0);(try clear c5b1);(try clear p6);(try clear c10);(try clear p10);(try clear q10);(try clear hx10);(try clear c11);(try clear c11b0);(try clear c12);(try clear c12b0);(try clear c13);(try clear c13b0);(try clear c14);(try clear c14b0);(try clear c21);(try clear c22);(try clear c22b0);(try clear hcz17_0);(try clear hfz17_0);(try clear hx107_0);(try clear hx109_0);(try clear p1);(try clear p10);(try clear p107);(try clear p109);(try clear p2);(try clear p6);(try clear q1);(try clear q10);(try clear q107);(try clear q109);obtain ⟨x8_3,x10_3,rfl,HA,HK3,HO_5,HO_8,BK108,HB⟩:=hrel;have hl8_3:=(Kd.R_reads' HO_8.out).1;rw [hl8_3] at HO_8;(try simp only [hl8_3]);(try simp only [hl8_3] at BK108);(try simp only [hl8_3] at HO_5)
              cases gk with
              |zero=>exact absurd HA.out (by simp [impl_tables.l2])
              |succ k3=>
               have H:=HA.out;clear HA;simp only [impl_tables.l2] at H;obtain ⟨ji23,hji23⟩:∃ j_:Int,(mn x29_2 (((rd_T53 l0 x17_1).f0).length:Int))=j_:=⟨_,rfl⟩;replace H:(if x10_3≤(ji23) then (if 0≤x29_2 then (if x29_2<(x8_3.length:Int) then (if 0≤x17_1 then (if x17_1<(x5_1.length:Int) then (if 0≤(wrap64 (x29_2 - x10_3)) then (if (wrap64 (x29_2 - x10_3))<((rd_L2 x5_1 x17_1).length:Int) then ((impl_Offer_gain.f ((rd_T53 l0 x17_1).f0) x10_3).bind fun t119=>(impl_tables.l2 k3 x5_1 x17_1 (x8_3.set (x29_2:Int).toNat (mx (rd x8_3 x29_2) (wrap64 ((rd (rd_L2 x5_1 x17_1) (wrap64 (x29_2 - x10_3)))+t119)))) x29_2 (wrap64 (x10_3+1)) l0 (l0.length:Int) x17_1 (t110.length:Int) x29_2 ((rd_T53 l0 x17_1).f0))) else (none)) else (none)) else (none)) else (none)) else (none)) else (none)) else (impl_tables.l1 k3 x5_1 x17_1 x8_3 l0 (l0.length:Int) x17_1 (t110.length:Int) (wrap64 (x29_2+1)) ((rd_T53 l0 x17_1).f0)))=some r:=by first|(rw [hji23] at H;exact H)|(simp only [hji23] at H ⊢;exact H)
               have hji23_:(if (((rd_T53 l0 x17_1).f0).length:Int)<x29_2 then (((rd_T53 l0 x17_1).f0).length:Int) else x29_2)=ji23:=hji23;by_cases c24:x10_3≤(ji23)
               ·rw [if_pos c24] at H;have c24b0:decide (x10_3≤(ji23))=true:=decide_eq_true c24;clear c24;by_cases c25:0≤x29_2
                ·rw [if_pos c25] at H;have c25b0:decide (0≤x29_2)=true:=decide_eq_true c25;clear c25;by_cases c26:x29_2<(x8_3.length:Int)
                 ·rw [if_pos c26] at H;have c26b0:decide (x29_2<(x8_3.length:Int))=true:=decide_eq_true c26;clear c26;by_cases c27:0≤x17_1
                  ·rw [if_pos c27] at H;have c27b0:decide (0≤x17_1)=true:=decide_eq_true c27;clear c27;by_cases c28:x17_1<(x5_1.length:Int)
                   ·rw [if_pos c28] at H;have c28b0:decide (x17_1<(x5_1.length:Int))=true:=decide_eq_true c28;clear c28;obtain ⟨ji29,hji29⟩:∃ j_:Int,(wrap64 (x29_2 - x10_3))=j_:=⟨_,rfl⟩;replace H:(if 0≤(ji29) then (if (ji29)<((rd_L2 x5_1 x17_1).length:Int) then ((impl_Offer_gain.f ((rd_T53 l0 x17_1).f0) x10_3).bind fun t119=>(impl_tables.l2 k3 x5_1 x17_1 (x8_3.set (x29_2:Int).toNat (mx (rd x8_3 x29_2) (wrap64 ((rd (rd_L2 x5_1 x17_1) (ji29))+t119)))) x29_2 (wrap64 (x10_3+1)) l0 (l0.length:Int) x17_1 (t110.length:Int) x29_2 ((rd_T53 l0 x17_1).f0))) else (none)) else (none))=some r:=by first|(rw [hji29] at H;exact H)|(simp only [hji29] at H ⊢;exact H)
                    have hji29w:(IntKind.i64.wrap (x29_2 - x10_3))=ji29:=(i64_w _).trans hji29;by_cases c30:0≤(ji29)
                    ·rw [if_pos c30] at H;have c30b0:decide (0≤(ji29))=true:=decide_eq_true c30;clear c30;by_cases c31:(ji29)<((rd_L2 x5_1 x17_1).length:Int)
                     ·rw [if_pos c31] at H;have c31b0:decide ((ji29)<((rd_L2 x5_1 x17_1).length:Int))=true:=decide_eq_true c31;clear c31;replace H:=Option.bind_eq_some_iff.mp H;obtain ⟨t119,A320,H⟩:=H;replace H:(impl_tables.l2 k3 x5_1 x17_1 (x8_3.set (x29_2:Int).toNat (mx (rd x8_3 x29_2) (wrap64 ((rd (rd_L2 x5_1 x17_1) (ji29))+t119)))) x29_2 (wrap64 (x10_3+1)) l0 (l0.length:Int) x17_1 (t110.length:Int) x29_2 ((rd_T53 l0 x17_1).f0))=some r:=H;have A32:=aM A320;clear A320;obtain ⟨ji33,hji33⟩:∃ j_:Int,(mx (rd x8_3 x29_2) (wrap64 ((rd (rd_L2 x5_1 x17_1) (ji29))+t119)))=j_:=⟨_,rfl⟩;replace H:(impl_tables.l2 k3 x5_1 x17_1 (x8_3.set (x29_2:Int).toNat (ji33)) x29_2 (wrap64 (x10_3+1)) l0 (l0.length:Int) x17_1 (t110.length:Int) x29_2 ((rd_T53 l0 x17_1).f0))=some r:=by first|(rw [hji33] at H;exact H)|(simp only [hji33] at H ⊢;exact H)
                      (try rw [hji33] at A32);have hji33_:(if (rd x8_3 x29_2)<(wrap64 ((rd (rd_L2 x5_1 x17_1) (ji29))+t119)) then (wrap64 ((rd (rd_L2 x5_1 x17_1) (ji29))+t119)) else (rd x8_3 x29_2))=ji33:=hji33;obtain ⟨y120,hy120⟩:∃ y_:List Int,y_=(x8_3.set (x29_2:Int).toNat (ji33)):=⟨_,rfl⟩;replace H:(impl_tables.l2 k3 x5_1 x17_1 y120 x29_2 (wrap64 (x10_3+1)) l0 (l0.length:Int) x17_1 (t110.length:Int) x29_2 ((rd_T53 l0 x17_1).f0))=some r:=by first|(rw [hy120];with_reducible exact H)|(have H2_:=(Option.bind_some _ _).symm.trans H;rw [hy120];with_reducible exact H2_)|(have H2_:=(Option.bind_some _ _).symm.trans H;with_reducible exact H2_)|with_reducible exact H|(rw [hy120];exact H)|exact H
                      have Ny120:=aM hy120;clear hy120;have H':=aM H;clear H;have hcz35_0:wr.cell? ⟨gb108,0,none⟩=some (.slice A107_0 ((rd_T53 l0 x17_1).f0).length c107_0):=(blk_cell BK108.out 0).trans rfl;have hfz35_0:=blk_frozen BK108.out 0
                      try go_wp2
                      have n0_:=aM (Kd.N_drew HO_5.out);have n1_:=aM (Kd.R_drew HO_8.out);have n2_:=aM (Qg BK108.out);have n3_:=aM (Qb HB.out);clear HO_5;clear HO_8;clear BK108;clear HB;have HO_5:=n0_;have HO_8:=n1_;have BK108:=n2_;have HB:=n3_;clear n0_ n1_ n2_ n3_;have p116:0≤(x29_2:Int):=of_decide_eq_true (by first|(with_reducible assumption)|assumption);have q116:x29_2<(x8_3.length:Int):=of_decide_eq_true (by first|(with_reducible assumption)|assumption);obtain ⟨ad116,e116,hx116_0⟩:=Kd.at_int (Kd.R_reads' HO_8.out).2.2 x29_2 p116 q116
                      cases e116
                      replace p116:=eq_true p116;replace q116:=eq_true q116;have p117:0≤(x17_1:Int):=of_decide_eq_true (by first|(with_reducible assumption)|assumption);have q117:x17_1<(x5_1.length:Int):=of_decide_eq_true (by first|(with_reducible assumption)|assumption);obtain ⟨ad117,A117_0,c117_0,e117,hx117_0,hl117_0,hi117_0⟩:=at_L2 (Kd.Qs HO_5.out).2.2 x17_1 p117 q117;obtain rfl:ad109=ad117:=(by injection e117);obtain ⟨ce117,hce117,hMe117,hcc117⟩:=Kd.N_get HO_5.out [] x17_1 p117 (by first|exact q117|exact of_decide_eq_true (by first|(with_reducible assumption)|assumption)|(have e_:=(Kd.Qs HO_5.out).1;omega));obtain ⟨ua117_0,uc117_0,rfl,ul117_0,ge117_0⟩:=Kd.FK_slice_open hMe117;have hv117_0:=hcc117 0 _ rfl;rw [Nat.add_zero,show ((Kd.slice 3 (Kd.int .i64))).sz=1 from rfl,Nat.mul_one] at hv117_0;replace hv117_0:=Option.some.inj (hv117_0.symm.trans hx117_0)
                      injection hv117_0 with hva_ hvn_ hvc_
                      rw [hva_] at ge117_0;rw [hvc_] at ul117_0;have HL117_0:=aM (show Kd.V (Kd.int .i64) 3 _ w.heap.size _ _ (rd_L2 x5_1 x17_1) from Kd.V_mk ul117_0 ge117_0);clear hva_ hvn_ hvc_ ge117_0 ul117_0;clear hcc117 hce117;have HR117_0:=aM hi117_0;have HC117_0:=aM hl117_0;clear hi117_0 hl117_0;replace p117:=eq_true p117;replace q117:=eq_true q117;have p118:0≤((ji29):Int):=of_decide_eq_true (by first|(with_reducible assumption)|assumption);have q118:(ji29)<((rd_L2 x5_1 x17_1).length:Int):=of_decide_eq_true (by first|(with_reducible assumption)|assumption);obtain ⟨ad118,e118,hx118_0⟩:=Kd.at_int (by repeat (first|(with_reducible exact HR117_0.out)|(with_reducible refine Kd.Qj ?_ _)|(with_reducible refine Kd.Qk ?_ _)|(with_reducible refine Kd.C_drew ?_)|exact HR117_0.out)) (ji29) p118 q118
                      cases e118
                      replace p118:=eq_true p118;replace q118:=eq_true q118;refine start_ (n:=22) (S:=fun w'=>w'.cell? ⟨gb108,0,none⟩=some (.slice A107_0 ((rd_T53 l0 x17_1).f0).length c107_0)∧w'.cell? (ad116.add (x29_2).toNat)=some (.int .i64 (rd x8_3 x29_2))∧w'.cell? (ad109.add (x17_1).toNat)=some (.slice (some ad118) (rd_L2 x5_1 x17_1).length c117_0)∧w'.cell? (ad118.add ((ji29)).toNat)=some (.int .i64 (rd (rd_L2 x5_1 x17_1) (ji29)))) (ds:=[21]) #[false,false,false,false,false,false,false,false,false,false,false,false,false,false,false,false,false,false,false,false,false,false] (by kernel_rfl) rfl rfl ⟨(blk_cell BK108.out 0).trans rfl,hx116_0,hx117_0,hx118_0⟩ (fun hHeld=>?_);refine with_tabW impl_tables.tab12 impl_tables.bits12 (fun HT_ HW_=>?_)
                      generalize wr.drew=w36 at HO_5 HO_8 BK108 HB HL117_0 HR117_0 hx116_0 hx117_0 hx118_0 hHeld ⊢
                      refine pure_ (i:=0) (N:=some 41) (v:=?_) (a':=?_) #[true,false,false,false,false,false,false,false,false,false,false,false,false,false,false,false,false,false,false,false,false,false] rfl rfl (any_of HT_.out (by kernel_rfl)) (fun _ _ _ h=>h) (Or.inl ⟨by rfl,?_⟩) ?_ ?_
                      rotate_left
                      ·intro w'
                       go_simp
                       with_reducible rfl
                      rotate_left
                      ·simp only [Act.put,aA,aB,aC,i64_w,i32_w]
                       rfl
                      refine pure_ (i:=1) (N:=some 42) (v:=?_) (a':=?_) #[true,true,false,false,false,false,false,false,false,false,false,false,false,false,false,false,false,false,false,false,false,false] rfl rfl (any_of HT_.out (by kernel_rfl)) (fun _ _ _ h=>h) (Or.inl ⟨by rfl,?_⟩) ?_ ?_
                      rotate_left
                      ·intro w'
                       go_simp
                       with_reducible rfl
                      rotate_left
                      ·simp only [Act.put,aA,aB,aC,i64_w,i32_w]
                       rfl
                      refine pure_ (i:=2) (N:=some 43) (v:=?_) (a':=?_) #[true,true,true,false,false,false,false,false,false,false,false,false,false,false,false,false,false,false,false,false,false,false] rfl rfl (any_of HT_.out (by kernel_rfl)) (fun _ _ _ h=>h) (Or.inl ⟨by rfl,?_⟩) ?_ ?_
                      rotate_left
                      ·intro w'
                       go_simp
                       with_reducible rfl
                      rotate_left
                      ·simp only [Act.put,aA,aB,aC,i64_w,i32_w]
                       rfl
                      refine pure_ (i:=3) (N:=some 44) (v:=?_) (a':=?_) #[true,true,true,true,false,false,false,false,false,false,false,false,false,false,false,false,false,false,false,false,false,false] rfl rfl (any_of HT_.out (by kernel_rfl)) (fun _ _ _ h=>h) (Or.inl ⟨by rfl,?_⟩) ?_ ?_
                      rotate_left
                      ·intro w'
                       go_simp
                       with_reducible rfl
                      rotate_left
                      ·simp only [Act.put,aA,aB,aC,i64_w,i32_w]
                       rfl
                      refine pure_ (i:=4) (N:=some 45) (v:=?_) (a':=?_) #[true,true,true,true,true,false,false,false,false,false,false,false,false,false,false,false,false,false,false,false,false,false] rfl rfl (any_of HT_.out (by kernel_rfl)) (fun _ _ _ h=>h) (Or.inl ⟨by rfl,?_⟩) ?_ ?_
                      rotate_left
                      ·intro w'
                       go_simp
                       with_reducible rfl
                      rotate_left
                      ·simp only [Act.put,aA,aB,aC,i64_w,i32_w]
                       rfl
                      refine pure_ (i:=6) (N:=some 47) (v:=?_) (a':=?_) #[true,true,true,true,true,false,true,false,false,false,false,false,false,false,false,false,false,false,false,false,false,false] rfl rfl (any_of HT_.out (by kernel_rfl)) (fun _ _ _ h=>h) (Or.inl ⟨by rfl,?_⟩) ?_ ?_
                      rotate_left
                      ·intro w'
                       go_simp
                       with_reducible rfl
                      rotate_left
                      ·simp only [Act.put,aA,aB,aC,i64_w,i32_w]
                       rfl
                      refine pure_ (i:=7) (N:=some 48) (v:=?_) (a':=?_) #[true,true,true,true,true,false,true,true,false,false,false,false,false,false,false,false,false,false,false,false,false,false] rfl rfl (any_of HT_.out (by kernel_rfl)) (fun _ _ _ h=>h) (Or.inl ⟨by rfl,?_⟩) ?_ ?_
                      rotate_left
                      ·intro w'
                       go_simp
                       with_reducible rfl
                      rotate_left
                      ·simp only [Act.put,aA,aB,aC,i64_w,i32_w]
                       rfl
                      refine pure_ (i:=8) (N:=some 49) (v:=?_) (a':=?_) #[true,true,true,true,true,false,true,true,true,false,false,false,false,false,false,false,false,false,false,false,false,false] rfl rfl (any_of HT_.out (by kernel_rfl)) (fun _ _ _ h=>h) (Or.inl ⟨by rfl,?_⟩) ?_ ?_
                      rotate_left
                      ·intro w'
                       go_simp
                       with_reducible rfl
                      rotate_left
                      ·simp only [Act.put,aA,aB,aC,i64_w,i32_w]
                       rfl
                      refine pure_ (i:=10) (N:=some 51) (v:=?_) (a':=?_) #[true,true,true,true,true,false,true,true,true,false,true,false,false,false,false,false,false,false,false,false,false,false] rfl rfl (any_of HT_.out (by kernel_rfl)) (fun _ _ _ h=>h) (Or.inl ⟨by rfl,?_⟩) ?_ ?_
                      rotate_left
                      ·intro w'
                       go_simp
                       with_reducible rfl
                      rotate_left
                      ·simp only [Act.put,aA,aB,aC,i64_w,i32_w]
                       rfl
                      refine pure_ (i:=11) (N:=some 52) (v:=?_) (a':=?_) #[true,true,true,true,true,false,true,true,true,false,true,true,false,false,false,false,false,false,false,false,false,false] rfl rfl (any_of HT_.out (by kernel_rfl)) (fun _ _ _ h=>h) (Or.inl ⟨by rfl,?_⟩) ?_ ?_
                      rotate_left
                      ·intro w'
                       go_simp
                       with_reducible rfl
                      rotate_left
                      ·simp only [Act.put,aA,aB,aC,i64_w,i32_w]
                       rfl
                      refine pure_ (i:=12) (N:=some 53) (v:=?_) (a':=?_) #[true,true,true,true,true,false,true,true,true,false,true,true,true,false,false,false,false,false,false,false,false,false] rfl rfl (any_of HT_.out (by kernel_rfl)) (fun _ _ _ h=>h) (Or.inl ⟨by rfl,?_⟩) ?_ ?_
                      rotate_left
                      ·intro w'
                       go_simp
                       with_reducible rfl
                      rotate_left
                      ·simp only [Act.put,aA,aB,aC,i64_w,i32_w]
                       rfl
                      refine pure_ (i:=16) (N:=some 57) (v:=?_) (a':=?_) #[true,true,true,true,true,false,true,true,true,false,true,true,true,false,false,false,true,false,false,false,false,false] rfl rfl (any_of HT_.out (by kernel_rfl)) (fun _ _ _ h=>h) (Or.inl ⟨by rfl,?_⟩) ?_ ?_
                      rotate_left
                      ·intro w'
                       go_simp
                       with_reducible rfl
                      rotate_left
                      ·simp only [Act.put,aA,aB,aC,i64_w,i32_w]
                       rfl
                      refine take_ (i:=5) (N:=some 46) (v:=?_) (a':=?_) #[true,true,true,true,true,true,true,true,true,false,true,true,true,false,false,false,true,false,false,false,false,false] rfl rfl (take_ofW HT_.out HW_.out (by kernel_rfl)) (fun _ _ _ h=>h) (Or.inl ⟨by rfl,?_⟩) hHeld ?_ ?_
                      rotate_left
                      ·rintro w' ⟨s0,s1,s2,s3⟩
                       go_simp
                       with_reducible rfl
                      rotate_left
                      ·simp only [Act.put,aA,aB,aC,i64_w,i32_w]
                       rfl
                      refine take_ (i:=9) (N:=some 50) (v:=?_) (a':=?_) #[true,true,true,true,true,true,true,true,true,true,true,true,true,false,false,false,true,false,false,false,false,false] rfl rfl (take_ofW HT_.out HW_.out (by kernel_rfl)) (fun _ _ _ h=>h) (Or.inl ⟨by rfl,?_⟩) hHeld ?_ ?_
                      rotate_left
                      ·rintro w' ⟨s0,s1,s2,s3⟩
                       go_simp
                       with_reducible rfl
                      rotate_left
                      ·simp only [Act.put,aA,aB,aC,i64_w,i32_w]
                       rfl
                      refine pure_ (i:=13) (N:=some 54) (v:=?_) (a':=?_) #[true,true,true,true,true,true,true,true,true,true,true,true,true,true,false,false,true,false,false,false,false,false] rfl rfl (any_of HT_.out (by kernel_rfl)) (fun _ _ _ h=>h) (Or.inl ⟨by rfl,?_⟩) ?_ ?_
                      rotate_left
                      ·intro w'
                       go_simp
                       with_reducible rfl
                      rotate_left
                      ·simp only [Act.put,aA,aB,aC,i64_w,i32_w]
                       rfl
                      refine take_ (i:=14) (N:=some 55) (v:=?_) (a':=?_) #[true,true,true,true,true,true,true,true,true,true,true,true,true,true,true,false,true,false,false,false,false,false] rfl rfl (take_ofW HT_.out HW_.out (by kernel_rfl)) (fun _ _ _ h=>h) (Or.inl ⟨by rfl,?_⟩) hHeld ?_ ?_
                      rotate_left
                      ·rintro w' ⟨s0,s1,s2,s3⟩
                       go_simp
                       with_reducible rfl
                      rotate_left
                      ·simp only [Act.put,aA,aB,aC,i64_w,i32_w]
                       rfl
                      refine take_ (i:=15) (N:=some 56) (v:=?_) (a':=?_) #[true,true,true,true,true,true,true,true,true,true,true,true,true,true,true,true,true,false,false,false,false,false] rfl rfl (take_ofW HT_.out HW_.out (by kernel_rfl)) (fun _ _ _ h=>h) (Or.inl ⟨by rfl,?_⟩) hHeld ?_ ?_
                      rotate_left
                      ·rintro w' ⟨s0,s1,s2,s3⟩
                       go_simp
                       with_reducible rfl
                      rotate_left
                      ·simp only [Act.put,aA,aB,aC,i64_w,i32_w]
                       rfl
                      refine one_ (i:=17) (N:=some 58) #[true,true,true,true,true,true,true,true,true,true,true,true,true,true,true,true,true,true,false,false,false,false] rfl rfl (one_of HT_.out (by kernel_rfl)) (by decide) (fun K hK=>?_)
                      first|(refine goes_ Try.func144 (by kernel_rfl) rfl #[.agg #[.slice A107_0 ((rd_T53 l0 x17_1).f0).length c107_0],.int .i64 x10_3] (by rfl) rfl rfl (by (try simp only [aD,aE,aF]);first|done|rfl|(simp only [aG,aH];rfl)) ?_)|(refine call_ 144 #[.agg #[.slice A107_0 ((rd_T53 l0 x17_1).f0).length c107_0],.int .i64 x10_3] (by rfl) rfl (by unfold execOp;simp [resolve,Deferred.ofValue,invoke,Act.eval,enters_ Try.func144 (by kernel_rfl) rfl]) ?_)
                      with_reducible refine (impl_Offer_gain.calls _ _ ((rd_T53 l0 x17_1).f0) x10_3 t119 _ ?side1 ?side2 A32.out).mono ?_
                      (case side1=>repeat (first|exact (Kd.C_below HR107_0.out HB.out)|(with_reducible refine Kd.Qj ?_ _)|(with_reducible refine Kd.Qk ?_ _)|(with_reducible refine Kd.C_drew ?_)))
                      (case side2=>exact HC107_0.out)
                      rintro e w37 ⟨rfl,hb⟩
                      have HS1_:=(hb.cell (aI _ _ (hHeld.2.1))).trans (hHeld.2.1);have HS2_:=(hb.cell (aI _ _ (hHeld.2.2.1))).trans (hHeld.2.2.1);have HS3_:=(hb.cell (aI _ _ (hHeld.2.2.2))).trans (hHeld.2.2.2);refine ⟨_,rfl,?_⟩;have n0_:=aM (Kd.N_below (by (with_reducible repeat (first|apply Kd.Ql|apply Kd.Qm|apply Kd.N_drew));exact HO_5.out) hb);have n1_:=aM (Kd.R_below (by (with_reducible repeat (first|apply Kd.R_alloc|apply Kd.R_drewN|apply Kd.R_drew));exact HO_8.out) hb);have n2_:=aM (Kd.V_below (by (with_reducible repeat (first|apply Kd.V_alloc|apply Kd.V_drewN|apply Kd.V_drew));exact HL117_0.out) hb);have n3_:=aM (blk_below (g:=gb108) (o:= .cells #[.slice A107_0 ((rd_T53 l0 x17_1).f0).length c107_0] 53 (0,0)) (by (with_reducible repeat (first|apply Qf|apply Qg|apply Qe));exact BK108.out) hb);have n4_:=aM (Kd.C_below (by repeat (first|(with_reducible exact HR117_0.out)|(with_reducible refine Kd.Qj ?_ _)|(with_reducible refine Kd.Qk ?_ _)|(with_reducible refine Kd.C_drew ?_)|exact HR117_0.out)) hb);have n5_:=aM (Qi (by repeat (first|(with_reducible first|exact HB.out|apply Qc|apply Qa|apply Qb|refine Qd ?_ GE108.out)|exact HB.out)) hb);clear HO_5;clear HO_8;clear HL117_0;clear BK108;clear HR117_0;clear HB;have HO_5:=n0_;have HO_8:=n1_;have HL117_0:=n2_;have BK108:=n3_;have HR117_0:=n4_;have HB:=n5_;clear n0_ n1_ n2_ n3_ n4_ n5_;(try clear hb);(try clear hb2);(try clear hk);(try clear hi);have p34:0≤(x29_2:Int):=of_decide_eq_true (by first|(with_reducible assumption)|assumption);have q34:(x29_2:Int)<((x8_3.length:Int):Int):=of_decide_eq_true (by first|(with_reducible assumption)|assumption);obtain ⟨go34,co34,eo34,gb34,gl34,cl34,HG34⟩:=Kd.R_form HO_8.out (by omega)
                      (first|cases eo34|(injection eo34 with ea_ en_ ec_;(first|subst ea_|(injection ea_ with ea_;subst ea_));subst ec_;clear en_))
                      have GB34:=aM gb34;have GG34:=aM HG34;clear gb34 gl34 HG34
                      (first|simp only [add_plain] at hx116_0|skip)
                      obtain ⟨hx34_0,hf34_0⟩:=Kd.R_celln 0 HO_8.out (x29_2:Int) p34 q34;replace p34:=eq_true p34;replace q34:=eq_true q34;have HP38:=Kd.R_putn HO_8.out (x29_2:Int) ji33;rw [←Ny120.out] at HP38;have HQ38:=aM HP38;clear HP38;refine hK.out _ _ ⟨(blk_cell BK108.out 0).trans rfl,HS1_,HS2_,HS3_⟩ (fun hHeld=>?_);clear hK K;refine norm_ (a':=?_) ?_ ?_
                      rotate_left
                      ·show Act.put _ (some 58) _=_
                       simp only [Act.put,aA,aB,aC,i64_w,i32_w]
                       rfl
                      refine pure_ (i:=18) (N:=some 59) (v:=?_) (a':=?_) #[true,true,true,true,true,true,true,true,true,true,true,true,true,true,true,true,true,true,true,false,false,false] rfl rfl (any_of HT_.out (by kernel_rfl)) (fun _ _ _ h=>h) (Or.inl ⟨by rfl,?_⟩) ?_ ?_
                      rotate_left
                      ·intro w'
                       go_simp
                       with_reducible rfl
                      rotate_left
                      ·simp only [Act.put,aA,aB,aC,i64_w,i32_w]
                       rfl
                      refine pure_ (i:=19) (N:=some 60) (v:=?_) (a':=?_) #[true,true,true,true,true,true,true,true,true,true,true,true,true,true,true,true,true,true,true,true,false,false] rfl rfl (any_of HT_.out (by kernel_rfl)) (fun _ _ _ h=>h) (Or.inl ⟨by rfl,?_⟩) ?_ ?_
                      rotate_left
                      ·intro w'
                       go_simp
                       with_reducible rfl
                      rotate_left
                      ·simp only [Act.put,aA,aB,aC,i64_w,i32_w]
                       rfl
                      refine pure_ (i:=20) (N:=some 61) (v:=?_) (a':=?_) #[true,true,true,true,true,true,true,true,true,true,true,true,true,true,true,true,true,true,true,true,true,false] rfl rfl (any_of HT_.out (by kernel_rfl)) (fun _ _ _ h=>h) (Or.inl ⟨by rfl,?_⟩) ?_ ?_
                      rotate_left
                      ·intro w'
                       go_simp
                       with_reducible rfl
                      rotate_left
                      ·simp only [Act.put,aA,aB,aC,i64_w,i32_w]
                       rfl
                      refine last_ (i:=21) (N:=none) #[true,true,true,true,true,true,true,true,true,true,true,true,true,true,true,true,true,true,true,true,true,true] rfl rfl (one_of HT_.out (by kernel_rfl)) (by decide) (fun K hK=>?_);refine skip_ (w1:=?_) (by rfl) rfl ?_ ?_
                      rotate_left
                      ·go_simp
                       rfl
                      refine hK.out _ _ ?_;clear hK K;refine done_ (done_of HT_.out (by kernel_rfl)) ?_
                      try go_wp2
                      (try simp only [←hl8_3]);go_roundg k3
                      case measure=>have:=HK1.out;have:=HK2.out;have:=HK3.out;omega
                      case rel=>exact ⟨(y120),(wrap64 (x10_3+1)),(by first|rfl|(simp;done)|(simp [*];done)),H',⟨by have:=HK1.out;have:=HK2.out;have:=HK3.out;omega⟩,⟨by (try simp only [hl8_2]);(try simp only [hl8_3]);(with_reducible repeat (first|apply Kd.Ql|apply Kd.Qm|apply Kd.N_drew));exact Kd.N_mono (Kd.N_far (p:=⟨go34,(x29_2:Int).toNat,none⟩) (Kd.N_mono HO_5.out (fun k_ hk=>(⟨hk,fun e_=>hk.2.1 (by rw [e_];rfl)⟩:_∧k_≠go34))) (fun _ hk=>hk.2) (.int .i64 ji33)) (fun _ hk=>⟨hk.1.1,⟨hk.1.2.1,hk.1.2.2⟩⟩)⟩,⟨by (try simp only [hl8_2]);(try simp only [hl8_3]);(with_reducible repeat (first|apply Kd.R_alloc|apply Kd.R_drewN|apply Kd.R_drew));exact HQ38.out⟩,⟨by (try simp only [hl8_2]);(try simp only [hl8_3]);(with_reducible repeat (first|apply Qf|apply Qg|apply Qe));refine blk_far ?_ (by have h_:=Kd.R_ne HO_8.out BK108.out (by decide);intro e_;exact h_ (by rw [e_];rfl)) _;(with_reducible repeat (first|apply Qf|apply Qg|apply Qe));exact BK108.out⟩,⟨by repeat (first|(with_reducible first|exact HB.out|apply Qc|apply Qa|apply Qb|refine Qd ?_ GB34.out|refine Qd ?_ GE108.out)|exact HB.out)⟩⟩
                     ·rw [if_neg c31] at H;exact absurd H (by simp)
                    ·rw [if_neg c30] at H;exact absurd H (by simp)
                   ·rw [if_neg c28] at H;exact absurd H (by simp)
                  ·rw [if_neg c27] at H;exact absurd H (by simp)
                 ·rw [if_neg c26] at H;exact absurd H (by simp)
                ·rw [if_neg c25] at H;exact absurd H (by simp)
               ·rw [if_neg c24] at H;have c24b0:decide (x10_3≤(ji23))=false:=decide_eq_false c24;clear c24;have H':=aM H;clear H;have hcz39_0:wr.cell? ⟨gb108,0,none⟩=some (.slice A107_0 ((rd_T53 l0 x17_1).f0).length c107_0):=(blk_cell BK108.out 0).trans rfl;have hfz39_0:=blk_frozen BK108.out 0;go_wp2;(try simp only [←hl8_2,←hl8_3]);go_roundg k3
                case measure=>have:=HK1.out;have:=HK2.out;have:=HK3.out;omega
                case rel=>exact ⟨(x8_3),(wrap64 (x29_2+1)),(by first|rfl|(simp;done)|(simp [*];done)),H',⟨by have:=HK1.out;have:=HK2.out;have:=HK3.out;omega⟩,⟨by (try simp only [hl8_2]);(try simp only [hl8_3]);(with_reducible repeat (first|apply Kd.Ql|apply Kd.Qm|apply Kd.N_drew));exact HO_5.out⟩,⟨by (try simp only [hl8_2]);(try simp only [hl8_3]);(with_reducible repeat (first|apply Kd.R_alloc|apply Kd.R_drewN|apply Kd.R_drew));exact HO_8.out⟩,⟨by (try simp only [hl8_2]);(try simp only [hl8_3]);(with_reducible repeat (first|apply Qf|apply Qg|apply Qe));exact BK108.out⟩,⟨by repeat (first|(with_reducible first|exact HB.out|apply Qc|apply Qa|apply Qb|refine Qd ?_ GE108.out)|exact HB.out)⟩⟩
            ·rw [if_neg c22] at H;have c22b0:decide (x29_2<(t110.length:Int))=false:=decide_eq_false c22;have c22b0l:=c22b0;(try simp only [hl8_2] at c22b0l);clear c22;by_cases c40:x5_1.length<5864062014805
             ·rw [if_pos c40] at H;have LMc40:=aM c40;clear c40;obtain ⟨y113,hy113⟩:∃ y_:List (List Int),y_=(x5_1 ++ [x8_2]):=⟨_,rfl⟩;replace H:(impl_tables.l0 k2 y113 l0 (l0.length:Int) (wrap64 (x17_1+1)))=some r:=by first|(rw [hy113];with_reducible exact H)|(have H2_:=(Option.bind_some _ _).symm.trans H;rw [hy113];with_reducible exact H2_)|(have H2_:=(Option.bind_some _ _).symm.trans H;with_reducible exact H2_)|with_reducible exact H|(rw [hy113];exact H)|exact H
              have Ny113:=aM hy113;clear hy113;have H':=aM H;clear H;go_wp2_with (first|((with_reducible refine gate_builtin (b:= .append) (xs:=#[.tmp 63,.tmp 65]) rfl ?_);at_builtin;refine Kd.N_append (Kd.slice 3 (Kd.int .i64)) (w0:=w) w.heap.size rfl (.tmp 63) (.tmp 65) 28 23 (.slice none 0 0) 24 rfl Try.underlying28 info23 rfl (by decide) (by omega) (.slice (some ad109) x5_1.length co19) x5_1 x8_2 [.slice Ao21 x8_2.length co21] (fun k_=>(w.heap.size≤k_)∧k_≠gb108) (fun k_=>((fun k_=>(w.heap.size≤k_)∧k_≠gb108)) k_∧some k_≠(.slice (some ad109) x5_1.length co19:Value).ownBlock) rfl rfl ?aP (fun _ hk=>hk) ?aF ?aO ?aB ?aS ?aL ?_;(case aP=>exact (Kd.FK_slice_mk (Kd.R_reads' (Kd.R_mono (ok':=(fun k_=>((fun k_=>(w.heap.size≤k_)∧k_≠gb108)) k_∧some k_≠(.slice (some ad109) x5_1.length co19:Value).ownBlock)) (Kd.R_types (Kd.R_apart' (HO_8.out) (Kd.N_typed HO_5.out) (by decide)) BK108.out (by decide)) (fun k_ hk=>⟨⟨hk.1.1,hk.2⟩,hk.1.2⟩))).2.1 (Kd.R_F (Kd.R_mono (ok':=(fun k_=>((fun k_=>(w.heap.size≤k_)∧k_≠gb108)) k_∧some k_≠(.slice (some ad109) x5_1.length co19:Value).ownBlock)) (Kd.R_types (Kd.R_apart' (HO_8.out) (Kd.N_typed HO_5.out) (by decide)) BK108.out (by decide)) (fun k_ hk=>⟨⟨hk.1.1,hk.2⟩,hk.1.2⟩)))));(case aB=>exact (by repeat (first|(with_reducible first|exact HB.out|apply Qc|apply Qa|apply Qb|refine Qd ?_ GE108.out)|exact HB.out)));(case aF=>exact (fun k_ hk=>⟨(Nat.le_trans (Qh (by repeat (first|(with_reducible first|exact HB.out|apply Qc|apply Qa|apply Qb|refine Qd ?_ GE108.out)|exact HB.out))) hk),Kd.freshB (g:=gb108) (o:= .cells #[.slice A107_0 ((rd_T53 l0 x17_1).f0).length c107_0] 53 (0,0)) (by (with_reducible repeat (first|apply Qf|apply Qg|apply Qe));exact BK108.out) k_ hk⟩));(case aO=>exact (by (with_reducible repeat (first|apply Kd.Ql|apply Kd.Qm|apply Kd.N_drew));exact Kd.N_mono HO_5.out (fun _ hk=>⟨hk.1,hk.2.2⟩)));(case aS=>exact (Qh (by repeat (first|(with_reducible first|exact HB.out|apply Qc|apply Qa|apply Qb|refine Qd ?_ GE108.out)|exact HB.out))));(case aL=>have:=LMc40.out;omega);intro v114 w41 ho hb hg hat;rw [←Ny113.out] at ho;have n0_:=aM (blk_grown (g:=gb108) (o:= .cells #[.slice A107_0 ((rd_T53 l0 x17_1).f0).length c107_0] 53 (0,0)) (by (with_reducible repeat (first|apply Qf|apply Qg|apply Qe));exact BK108.out) hg (Kd.N_ne HO_5.out BK108.out (by decide)));have n1_:=aM (hb);have n2_:=aM (ho);clear BK108;clear HB;clear HO_5;clear HO_8;have BK108:=n0_;have HB:=n1_;have HO115:=n2_;clear n0_ n1_ n2_;clear ho hb hg hat))
              (try simp only [←hl8_2]);go_roundg k2
              case measure=>have:=HK1.out;have:=HK2.out;omega
              case rel=>exact ⟨(y113),(wrap64 (x17_1+1)),(by first|rfl|(simp;done)|(simp [*];done)),H',⟨by have:=HK1.out;have:=HK2.out;omega⟩,⟨by (try simp only [hl8_2]);(with_reducible repeat (first|apply Kd.Ql|apply Kd.Qm|apply Kd.N_drew));exact Kd.N_mono HO115.out (fun _ hk=>hk.1)⟩,⟨by repeat (first|(with_reducible first|exact HB.out|apply Qc|apply Qa|apply Qb|refine Qd ?_ GE108.out)|exact HB.out)⟩⟩
             ·rw [if_neg c40] at H;exact absurd H (by simp)
         ·rw [if_neg c14] at H;exact absurd H (by simp)
        ·rw [if_neg c13] at H;exact absurd H (by simp)
       ·rw [if_neg c12] at H;exact absurd H (by simp)
      ·rw [if_neg c11] at H;have c11b0:decide (x17_1<(l0.length:Int))=false:=decide_eq_false c11;clear c11;obtain rfl:=Option.some.inj H;go_wp2
       go_ret
       exact ⟨_,by first|rfl|(simp [errW_none,errW_some] <;> rfl)|(simp only [←hji3];first|rfl|(simp [errW_none,errW_some] <;> rfl))|(simp [*,errW_none,errW_some] <;> rfl),by (with_reducible repeat (first|apply Kd.Ql|apply Kd.Qm|apply Kd.N_drew));exact HO_5.out,by repeat (first|(with_reducible first|exact HB.out|apply Qc|apply Qa|apply Qb)|exact HB.out)⟩
   ·rw [if_neg c5] at H;exact absurd H (by simp)
  ·rw [if_neg c4] at H;exact absurd H (by simp)

def impl_BestTable.f (k:Nat) (l0:List (S53)) (a1:Int):Option (List Int×Bool):=(impl_isOffered.f k l0 a1).bind fun t101=>(if t101=true then ((impl_tables.f k l0 a1).bind fun t102=>(if 0≤(l0.length:Int) then (if (l0.length:Int)<(t102.length:Int) then (some (rd_L2 t102 (l0.length:Int),true)) else (none)) else (none))) else (some (([]:List Int),false)))
set_option maxHeartbeats 8000000 in
set_option maxRecDepth 100000 in
theorem impl_BestTable.calls (k:Nat) (A0:Option Addr) (c0:Nat) (l0:List (S53)) (a1:Int) (r1:List Int) (r2:Bool) (w:World) (hr0:Kd.C k53 w A0 l0.length l0) (hc0:l0.length≤c0) (h:impl_BestTable.f k l0 a1=some (r1,r2)) :
    Calls Try.prog 38 #[.slice A0 l0.length c0,.int .i64 a1] w fun e w'=>∃ v0_:Value,e= .returned (.tuple #[v0_,.bool r2])∧Kd.V (Kd.int .i64) 3 w' w.heap.size (fun k_=>(w.heap.size≤k_)) v0_ r1∧Below w.heap.size w w':=by
  have HR0:=aM hr0;have HC0:=aM hc0;clear hr0 hc0;have HB:=aM (Below.refl w.heap.size w);have H:((impl_isOffered.f k l0 a1).bind fun t101=>(if t101=true then ((impl_tables.f k l0 a1).bind fun t102=>(if 0≤(l0.length:Int) then (if (l0.length:Int)<(t102.length:Int) then (some (rd_L2 t102 (l0.length:Int),true)) else (none)) else (none))) else (some (([]:List Int),false))))=some (r1,r2):=h;clear h;replace H:=Option.bind_eq_some_iff.mp H;obtain ⟨t101,A30,H⟩:=H;replace H:(if t101=true then ((impl_tables.f k l0 a1).bind fun t102=>(if 0≤(l0.length:Int) then (if (l0.length:Int)<(t102.length:Int) then (some (rd_L2 t102 (l0.length:Int),true)) else (none)) else (none))) else (some (([]:List Int),false)))=some (r1,r2):=H;have A3:=aM A30;clear A30;by_cases c4:t101=true
  ·subst c4;have H1:((impl_tables.f k l0 a1).bind fun t102=>(if 0≤(l0.length:Int) then (if (l0.length:Int)<(t102.length:Int) then (some (rd_L2 t102 (l0.length:Int),true)) else (none)) else (none)))=some (r1,r2):=by rw [if_pos rfl] at H;exact H
   clear H;have H:=H1;clear H1;replace H:=Option.bind_eq_some_iff.mp H;obtain ⟨t102,A50,H⟩:=H;replace H:(if 0≤(l0.length:Int) then (if (l0.length:Int)<(t102.length:Int) then (some (rd_L2 t102 (l0.length:Int),true)) else (none)) else (none))=some (r1,r2):=H;have A5:=aM A50;clear A50;by_cases c6:0≤(l0.length:Int)
   ·rw [if_pos c6] at H;have c6b0:decide (0≤(l0.length:Int))=true:=decide_eq_true c6;have c6b1:decide (0≤l0.length)=true:=decide_eq_true (by omega);clear c6;by_cases c7:(l0.length:Int)<(t102.length:Int)
    ·rw [if_pos c7] at H;have c7b0:decide ((l0.length:Int)<(t102.length:Int))=true:=decide_eq_true c7;have c7b1:decide (l0.length<t102.length)=true:=decide_eq_true (Int.ofNat_lt.mp c7);clear c7;simp only [Option.some.injEq,Prod.mk.injEq] at H;obtain ⟨rfl,rfl⟩:=H;go_enter Try.func38,Try.ntmps38;go_wp2_with (first|((with_reducible refine Qn (f:=140) rfl ?_);refine goesL_ (some 8) rfl rfl Try.func140 (by kernel_rfl) rfl #[.slice A0 l0.length c0,.int .i64 a1] rfl (by (try simp only [aD,aE,aF]);first|done|rfl|(simp only [aG,aH];rfl)) ?_;(with_reducible refine (impl_isOffered.calls k _ _ l0 a1 true _ ?side1 ?side2 A3.out).mono ?_);(case side1=>repeat (first|exact HR0.out|(with_reducible refine Kd.Qj ?_ _)|(with_reducible refine Kd.Qk ?_ _)|(with_reducible refine Kd.C_drew ?_)));(case side2=>exact HC0.out);rintro e w8 ⟨rfl,hb⟩;refine ⟨_,rfl,?_⟩;have n0_:=aM (Qi (by repeat (first|(with_reducible first|exact HB.out|apply Qc|apply Qa|apply Qb)|exact HB.out)) hb);clear HB;have HB:=n0_;clear n0_;(try clear hb);(try clear hb2);(try clear hk);(try clear hi))|((with_reducible refine Qn (f:=141) rfl ?_);refine goesL_ (some 12) rfl rfl Try.func141 (by kernel_rfl) rfl #[.slice A0 l0.length c0,.int .i64 a1] rfl (by (try simp only [aD,aE,aF]);first|done|rfl|(simp only [aG,aH];rfl)) ?_;(with_reducible refine (impl_tables.calls k _ _ l0 a1 t102 _ ?side1 ?side2 A5.out).mono ?_);(case side1=>repeat (first|exact (Kd.C_below HR0.out HB.out)|(with_reducible refine Kd.Qj ?_ _)|(with_reducible refine Kd.Qk ?_ _)|(with_reducible refine Kd.C_drew ?_)));(case side2=>exact HC0.out);rintro e w9 ⟨v103,rfl,ho0,hb⟩;refine ⟨_,rfl,?_⟩;have n0_:=aM (Kd.N_lower (Kd.N_mono (ok':=fun k_=>(w.heap.size≤k_)) ho0 (fun k_ hk_=>(Nat.le_trans (Qh (by repeat (first|(with_reducible first|exact HB.out|apply Qc|apply Qa|apply Qb)|exact HB.out))) hk_))) (Qh (by repeat (first|(with_reducible first|exact HB.out|apply Qc|apply Qa|apply Qb)|exact HB.out))));have n1_:=aM (Qi (by repeat (first|(with_reducible first|exact HB.out|apply Qc|apply Qa|apply Qb)|exact HB.out)) hb);clear HB;have HO104:=n0_;have HB:=n1_;clear n0_ n1_;(try clear hb);(try clear hb2);(try clear hk);(try clear hi);(try clear ho0);obtain ⟨Ao10,co10,eo10⟩:=Kd.N_slice HO104.out;subst eo10;have p105:0≤((l0.length:Int):Int):=of_decide_eq_true (by first|(with_reducible assumption)|assumption);have q105:(l0.length:Int)<(t102.length:Int):=of_decide_eq_true (by first|(with_reducible assumption)|assumption);obtain ⟨ad105,A105_0,c105_0,e105,hx105_0,hl105_0,hi105_0⟩:=at_L2 (Kd.Qs HO104.out).2.2 (l0.length:Int) p105 q105;cases e105;obtain ⟨ce105,hce105,hMe105,hcc105⟩:=Kd.N_get HO104.out [] (l0.length:Int) p105 (by first|exact q105|exact of_decide_eq_true (by first|(with_reducible assumption)|assumption)|(have e_:=(Kd.Qs HO104.out).1;omega));obtain ⟨ua105_0,uc105_0,rfl,ul105_0,ge105_0⟩:=Kd.FK_slice_open hMe105;have hv105_0:=hcc105 0 _ rfl;rw [Nat.add_zero,show ((Kd.slice 3 (Kd.int .i64))).sz=1 from rfl,Nat.mul_one] at hv105_0;replace hv105_0:=Option.some.inj (hv105_0.symm.trans hx105_0);injection hv105_0 with hva_ hvn_ hvc_;rw [hva_] at ge105_0;rw [hvc_] at ul105_0;have HL105_0:=aM (show Kd.V (Kd.int .i64) 3 _ w.heap.size _ _ (rd_L2 t102 (l0.length:Int)) from Kd.V_mk ul105_0 ge105_0);clear hva_ hvn_ hvc_ ge105_0 ul105_0;clear hcc105 hce105;have HR105_0:=aM hi105_0;have HC105_0:=aM hl105_0;clear hi105_0 hl105_0;(try simp only [Go.IntWalk.toNatUp] at hx105_0);replace p105:=eq_true p105;replace q105:=eq_true q105))
     go_ret2
     exact ⟨_,by first|rfl|(simp [errW_none,errW_some] <;> rfl)|(simp [*,errW_none,errW_some] <;> rfl),by (with_reducible repeat (first|apply Kd.V_alloc|apply Kd.V_drewN|apply Kd.V_drew));exact Kd.V_mono HL105_0.out (fun _ hk=>hk.1),by repeat (first|(with_reducible first|exact HB.out|apply Qc|apply Qa|apply Qb)|exact HB.out)⟩
    ·rw [if_neg c7] at H;exact absurd H (by simp)
   ·rw [if_neg c6] at H;exact absurd H (by simp)
  ·replace c4:=Bool.eq_false_iff.mpr c4;subst c4;have H1:(some (([]:List Int),false))=some (r1,r2):=by rw [if_neg (show ¬ (false=true) by decide)] at H;exact H
   clear H;have H:=H1;clear H1;simp only [Option.some.injEq,Prod.mk.injEq] at H;obtain ⟨rfl,rfl⟩:=H;go_enter Try.func38,Try.ntmps38;go_wp2_with (first|((with_reducible refine Qn (f:=140) rfl ?_);refine goesL_ (some 8) rfl rfl Try.func140 (by kernel_rfl) rfl #[.slice A0 l0.length c0,.int .i64 a1] rfl (by (try simp only [aD,aE,aF]);first|done|rfl|(simp only [aG,aH];rfl)) ?_;(with_reducible refine (impl_isOffered.calls k _ _ l0 a1 false _ ?side1 ?side2 A3.out).mono ?_);(case side1=>repeat (first|exact HR0.out|(with_reducible refine Kd.Qj ?_ _)|(with_reducible refine Kd.Qk ?_ _)|(with_reducible refine Kd.C_drew ?_)));(case side2=>exact HC0.out);rintro e w11 ⟨rfl,hb⟩;refine ⟨_,rfl,?_⟩;have n0_:=aM (Qi (by repeat (first|(with_reducible first|exact HB.out|apply Qc|apply Qa|apply Qb)|exact HB.out)) hb);clear HB;have HB:=n0_;clear n0_;(try clear hb);(try clear hb2);(try clear hk);(try clear hi)))
   go_ret2
   exact ⟨_,by first|rfl|(simp [errW_none,errW_some] <;> rfl)|(simp [*,errW_none,errW_some] <;> rfl),Kd.R_V (base:=0) (by first|exact Kd.R_nil _ _ _ _ _|exact Kd.N_nil _ _ _ _ _|exact Kd.V_nil _ _ _ _ _|exact Kd.Q_nil _ _ _ _ _|exact Kd.S_nil _ _ _ _ _),by repeat (first|(with_reducible first|exact HB.out|apply Qc|apply Qa|apply Qb)|exact HB.out)⟩

def spec_l6Places.f (a0:Int):Option (Bool):=(spec_l1In.f a0 0 40).bind fun t101=>(some t101)
set_option maxHeartbeats 8000000 in
set_option maxRecDepth 100000 in
theorem spec_l6Places.calls (a0:Int) (r:Bool) (w:World) (h:spec_l6Places.f a0=some r) :
    Calls Try.prog 142 #[.int .i64 a0] w fun e w'=>e= .returned (.bool r)∧Drawn0 w w':=by
  have H:((spec_l1In.f a0 0 40).bind fun t101=>(some t101))=some r:=h;clear h;replace H:=Option.bind_eq_some_iff.mp H;obtain ⟨t101,A20,H⟩:=H;replace H:(some t101)=some r:=H;have A2:=aM A20;clear A20;obtain rfl:=Option.some.inj H;go_enter Try.func142,Try.ntmps142;go_wp2_with (first|((with_reducible refine Qn (f:=152) rfl ?_);refine goesL_ (some 4) rfl rfl Try.func152 (by kernel_rfl) rfl #[.int .i64 a0,.int .i64 0,.int .i64 40] rfl (by (try simp only [aD,aE,aF]);first|done|rfl|(simp only [aG,aH];rfl)) ?_;(with_reducible refine (spec_l1In.calls a0 0 40 t101 _ A2.out).mono ?_);rintro e w' ⟨rfl,⟨nd,rfl⟩⟩;refine ⟨_,rfl,?_⟩))
  go_ret
  exact ⟨by first|rfl|(simp;done)|(simp [*];done),by repeat (first|exact Drawn0.refl _|apply Drawn0.step)⟩

def spec_l6Gain.f (l0_0:List Int) (a1:Int):Option (Int):=if a1=0 then (some 0) else (if 0≤(wrap64 (a1 - 1)) then (if (wrap64 (a1 - 1))<(l0_0.length:Int) then (some (rd l0_0 (wrap64 (a1 - 1)))) else (none)) else (none))
set_option maxHeartbeats 8000000 in
set_option maxRecDepth 100000 in
theorem spec_l6Gain.calls (A0_0:Option Addr) (c0_0:Nat) (l0_0:List Int) (a1:Int) (r:Int) (w:World) (hr0_0:Kd.C (Kd.int .i64) w A0_0 l0_0.length l0_0) (hc0_0:l0_0.length≤c0_0) (h:spec_l6Gain.f l0_0 a1=some r) :
    Calls Try.prog 147 #[.agg #[.slice A0_0 l0_0.length c0_0],.int .i64 a1] w fun e w'=>e= .returned (.int .i64 r)∧Below w.heap.size w w':=by
  have hu53:=Try.underlying53;have HR0_0:=aM hr0_0;have HC0_0:=aM hc0_0;clear hr0_0 hc0_0;have HB:=aM (Below.refl w.heap.size w);have H:(if a1=0 then (some 0) else (if 0≤(wrap64 (a1 - 1)) then (if (wrap64 (a1 - 1))<(l0_0.length:Int) then (some (rd l0_0 (wrap64 (a1 - 1)))) else (none)) else (none)))=some r:=h;clear h;by_cases c3:a1=0
  ·rw [if_pos c3] at H;have c3b0:(a1 == 0)=true:=beq_iff_eq.mpr c3;have c3b1:(a1 != 0)=false:=bne_eq_false_iff_eq.mpr c3;clear c3;obtain rfl:=Option.some.inj H;go_enter Try.func147,Try.ntmps147;go_wp2_with (first|((with_reducible refine gate_dst (N:=2) rfl ?_);refine box_event ?hg (N:=2) ?hd (cs:=#[.slice A0_0 l0_0.length c0_0]) (t:=53) ?hr ?_;(case hd=>rfl);(case hg=>rfl);(case hr=>first|(go_simp;done)|(go_simp;rfl));intro gb101 hg w4 hbox hb;have n0_:=aM (Qi (by repeat (first|(with_reducible first|exact HB.out|apply Qc|apply Qa|apply Qb)|exact HB.out)) hb);have n1_:=aM (hbox);have n2_:=aM ((by rw [hg];exact (Qh (by repeat (first|(with_reducible first|exact HB.out|apply Qc|apply Qa|apply Qb)|exact HB.out))):w.heap.size≤gb101));have n3_:=aM ((by rw [hg];exact (Qh (by repeat (first|(with_reducible first|exact HB.out|apply Qc|apply Qa|apply Qb)|exact HB.out))):w.heap.size≤gb101));clear HB;have HB:=n0_;have BK101:=n1_;have GW101:=n2_;have GE101:=n3_;clear n0_ n1_ n2_ n3_;clear hb hbox hg))
   go_ret
   exact ⟨by first|rfl|(simp [errW_none,errW_some] <;> rfl)|(simp [*,errW_none,errW_some] <;> rfl),by repeat (first|(with_reducible first|exact HB.out|apply Qc|apply Qa|apply Qb|refine Qd ?_ GE101.out)|exact HB.out)⟩
  ·rw [if_neg c3] at H;have c3b0:(a1 == 0)=false:=beq_eq_false_iff_ne.mpr c3;have c3b1:(a1 != 0)=true:=bne_iff_ne.mpr c3;obtain ⟨ji5,hji5⟩:∃ j_:Int,(wrap64 (a1 - 1))=j_:=⟨_,rfl⟩;replace H:(if 0≤(ji5) then (if (ji5)<(l0_0.length:Int) then (some (rd l0_0 (ji5))) else (none)) else (none))=some r:=by first|(rw [hji5] at H;exact H)|(simp only [hji5] at H ⊢;exact H)
   have hji5w:(IntKind.i64.wrap (a1 - 1))=ji5:=(i64_w _).trans hji5;by_cases c6:0≤(ji5)
   ·rw [if_pos c6] at H;have c6b0:decide (0≤(ji5))=true:=decide_eq_true c6;clear c6;by_cases c7:(ji5)<(l0_0.length:Int)
    ·rw [if_pos c7] at H;have c7b0:decide ((ji5)<(l0_0.length:Int))=true:=decide_eq_true c7;clear c7;obtain rfl:=Option.some.inj H;go_enter Try.func147,Try.ntmps147;go_wp2_with (first|((with_reducible refine gate_dst (N:=2) rfl ?_);refine box_event ?hg (N:=2) ?hd (cs:=#[.slice A0_0 l0_0.length c0_0]) (t:=53) ?hr ?_;(case hd=>rfl);(case hg=>rfl);(case hr=>first|(go_simp;done)|(go_simp;rfl));intro gb101 hg w8 hbox hb;have n0_:=aM (Qi (by repeat (first|(with_reducible first|exact HB.out|apply Qc|apply Qa|apply Qb)|exact HB.out)) hb);have n1_:=aM (hbox);have n2_:=aM ((by rw [hg];exact (Qh (by repeat (first|(with_reducible first|exact HB.out|apply Qc|apply Qa|apply Qb)|exact HB.out))):w.heap.size≤gb101));have n3_:=aM ((by rw [hg];exact (Qh (by repeat (first|(with_reducible first|exact HB.out|apply Qc|apply Qa|apply Qb)|exact HB.out))):w.heap.size≤gb101));clear HB;have HB:=n0_;have BK101:=n1_;have GW101:=n2_;have GE101:=n3_;clear n0_ n1_ n2_ n3_;clear hb hbox hg;have hcz9_0:w8.cell? ⟨gb101,0,none⟩=some (.slice A0_0 l0_0.length c0_0):=(blk_cell BK101.out 0).trans rfl;have hfz9_0:=blk_frozen BK101.out 0;have p102:0≤((ji5):Int):=of_decide_eq_true (by first|(with_reducible assumption)|assumption);have q102:(ji5)<(l0_0.length:Int):=of_decide_eq_true (by first|(with_reducible assumption)|assumption);obtain ⟨ad102,e102,hx102_0⟩:=Kd.at_int HR0_0.out (ji5) p102 q102;cases e102;replace hx102_0:=(HB.out.cell (aI w _ hx102_0)).trans hx102_0;replace p102:=eq_true p102;replace q102:=eq_true q102))
     go_ret
     exact ⟨by first|rfl|(simp [errW_none,errW_some] <;> rfl)|(simp only [←hji5];first|rfl|(simp [errW_none,errW_some] <;> rfl))|(simp [*,errW_none,errW_some] <;> rfl),by repeat (first|(with_reducible first|exact HB.out|apply Qc|apply Qa|apply Qb|refine Qd ?_ GE101.out)|exact HB.out)⟩
    ·rw [if_neg c7] at H;exact absurd H (by simp)
   ·rw [if_neg c6] at H;exact absurd H (by simp)

mutual
def spec_l6Rows.l0:Nat→Int→List Int→List (List Int)→List (S53)→Int→Int→Option ((List (List Int)))
  |0,_,_,_,_,_,_=>none
  |k+1,x1,x5,x6,x19,x20,x21=>if x21<x20 then (if 0≤x21 then (if x21<(x19.length:Int) then (if 0≤(wrap64 (x1+1)) then (if (wrap64 (x1+1):Int).toNat≤35184372088832 then ((some (List.replicate (wrap64 (x1+1):Int).toNat 0:List Int)).bind fun y109=>(spec_l6Rows.l1 k x1 x5 x6 y109 x19 x20 x21 (y109.length:Int) 0 ((rd_T53 x19 x21).f0))) else (none)) else (none)) else (none)) else (none)) else (some x6)
def spec_l6Rows.l1:Nat→Int→List Int→List (List Int)→List Int→List (S53)→Int→Int→Int→Int→List Int→Option ((List (List Int)))
  |0,_,_,_,_,_,_,_,_,_,_=>none
  |k+1,x1,x5,x6,x9,x19,x20,x21,x29,x30,x109000=>if x30<x29 then (if 0≤x30 then (if x30<(x5.length:Int) then (spec_l6Rows.l2 k x1 x5 x6 x9 x30 (rd x5 x30) 1 x19 x20 x21 x29 x30 x109000) else (none)) else (none)) else (if x6.length<5864062014805 then (spec_l6Rows.l0 k x1 x9 (x6 ++ [x9]) x19 x20 (wrap64 (x21+1))) else (none))
def spec_l6Rows.l2:Nat→Int→List Int→List (List Int)→List Int→Int→Int→Int→List (S53)→Int→Int→Int→Int→List Int→Option ((List (List Int)))
  |0,_,_,_,_,_,_,_,_,_,_,_,_,_=>none
  |k+1,x1,x5,x6,x9,x10,x11,x12,x19,x20,x21,x29,x30,x109000=>if x12≤(x109000.length:Int) then (spec_l6Rows.j3 k x1 x5 x6 x9 x10 x11 x12 x19 x20 x21 x29 x30 (decide (x12≤x10)) x109000) else (spec_l6Rows.j3 k x1 x5 x6 x9 x10 x11 x12 x19 x20 x21 x29 x30 false x109000)
def spec_l6Rows.j3:Nat→Int→List Int→List (List Int)→List Int→Int→Int→Int→List (S53)→Int→Int→Int→Int→Bool→List Int→Option ((List (List Int)))
  |0,_,_,_,_,_,_,_,_,_,_,_,_,_,_=>none
  |k+1,x1,x5,x6,x9,x10,x11,x12,x19,x20,x21,x29,x30,x46,x109000=>if x46=true then (if 0≤(wrap64 (x10 - x12)) then (if (wrap64 (x10 - x12))<(x5.length:Int) then ((spec_l6Gain.f x109000 x12).bind fun t117=>(if (wrap64 ((rd x5 (wrap64 (x10 - x12)))+t117)) > x11 then (spec_l6Rows.l2 k x1 x5 x6 x9 x10 (wrap64 ((rd x5 (wrap64 (x10 - x12)))+t117)) (wrap64 (x12+1)) x19 x20 x21 x29 x30 x109000) else (spec_l6Rows.l2 k x1 x5 x6 x9 x10 x11 (wrap64 (x12+1)) x19 x20 x21 x29 x30 x109000))) else (none)) else (none)) else (if 0≤x10 then (if x10<(x9.length:Int) then (spec_l6Rows.l1 k x1 x5 x6 (x9.set (x10:Int).toNat x11) x19 x20 x21 x29 (wrap64 (x30+1)) x109000) else (none)) else (none))
end
def spec_l6Rows.f (k:Nat) (l0:List (S53)) (a1:Int):Option ((List (List Int))):=if 0≤(wrap64 (a1+1)) then (if (wrap64 (a1+1):Int).toNat≤35184372088832 then ((some (List.replicate (wrap64 (a1+1):Int).toNat 0:List Int)).bind fun y101=>(spec_l6Rows.l0 k a1 y101 (([y101]:List (List Int))) l0 (l0.length:Int) 0)) else (none)) else (none)
def spec_l6Rows.T14:Bool×List (List Nat×List Nat):=(true,[([],[]),([],[]),([],[]),([1,2],[1,2]),([0,3],[0,3]),([4],[4]),([],[]),([],[]),([6,7],[6,7]),([5,8],[5,8]),([9,8,0,1,2,3,4,5,6,7,8,9],[9])])
def spec_l6Rows.B14:List Nat:=[0,0,0,6,15,31,0,0,192,511,1023]
theorem spec_l6Rows.tab14:rtab .any (opsOf Try.f143 14)=spec_l6Rows.T14:=by kernel_rfl
theorem spec_l6Rows.bits14:waitsOk spec_l6Rows.T14.2 spec_l6Rows.B14=true:=by kernel_rfl
set_option maxHeartbeats 8000000 in
set_option maxRecDepth 100000 in
theorem spec_l6Rows.calls (k:Nat) (A0:Option Addr) (c0:Nat) (l0:List (S53)) (a1:Int) (r:List (List Int)) (w:World) (hr0:Kd.C k53 w A0 l0.length l0) (hc0:l0.length≤c0) (h:spec_l6Rows.f k l0 a1=some r) :
    Calls Try.prog 143 #[.slice A0 l0.length c0,.int .i64 a1] w fun e w'=>∃ v0_:Value,e= .returned (v0_)∧Kd.N (Kd.slice 3 (Kd.int .i64)) 23 w' w.heap.size (fun k_=>(w.heap.size≤k_)) v0_ r∧Below w.heap.size w w':=by
  have hu53:=Try.underlying53;have HR0:=aM hr0;have HC0:=aM hc0;clear hr0 hc0;have HB:=aM (Below.refl w.heap.size w);have H:(if 0≤(wrap64 (a1+1)) then (if (wrap64 (a1+1):Int).toNat≤35184372088832 then ((some (List.replicate (wrap64 (a1+1):Int).toNat 0:List Int)).bind fun y101=>(spec_l6Rows.l0 k a1 y101 (([y101]:List (List Int))) l0 (l0.length:Int) 0)) else (none)) else (none))=some r:=h;clear h;obtain ⟨ji3,hji3⟩:∃ j_:Int,(wrap64 (a1+1))=j_:=⟨_,rfl⟩;replace H:(if 0≤(ji3) then (if (ji3:Int).toNat≤35184372088832 then ((some (List.replicate (ji3:Int).toNat 0:List Int)).bind fun y101=>(spec_l6Rows.l0 k a1 y101 (([y101]:List (List Int))) l0 (l0.length:Int) 0)) else (none)) else (none))=some r:=by first|(rw [hji3] at H;exact H)|(simp only [hji3] at H ⊢;exact H)
  have hji3w:(IntKind.i64.wrap (a1+1))=ji3:=(i64_w _).trans hji3;by_cases c4:0≤(ji3)
  ·rw [if_pos c4] at H;have c4b0:=eq_true c4;have c4b1:decide (0≤(ji3))=true:=decide_eq_true c4;clear c4;by_cases c5:(ji3:Int).toNat≤35184372088832
   ·rw [if_pos c5] at H;have c5b0:=eq_true c5;have c5b1:decide ((ji3:Int).toNat≤35184372088832)=true:=decide_eq_true c5;clear c5;obtain ⟨y101,hy101⟩:∃ y_:List Int,y_=(List.replicate (ji3:Int).toNat 0):=⟨_,rfl⟩;replace H:(spec_l6Rows.l0 k a1 y101 (([y101]:List (List Int))) l0 (l0.length:Int) 0)=some r:=by first|(rw [hy101];with_reducible exact H)|(have H2_:=(Option.bind_some _ _).symm.trans H;rw [hy101];with_reducible exact H2_)|(have H2_:=(Option.bind_some _ _).symm.trans H;with_reducible exact H2_)|with_reducible exact H|(rw [hy101];exact H)|exact H
    have Ny101:=aM hy101;clear hy101;obtain ⟨y104,hy104⟩:∃ y_:List (List Int),y_=(([y101]:List (List Int))):=⟨_,rfl⟩;replace H:(spec_l6Rows.l0 k a1 y101 y104 l0 (l0.length:Int) 0)=some r:=by first|(rw [hy104];with_reducible exact H)|(have H2_:=(Option.bind_some _ _).symm.trans H;rw [hy104];with_reducible exact H2_)|(have H2_:=(Option.bind_some _ _).symm.trans H;with_reducible exact H2_)|with_reducible exact H|(rw [hy104];exact H)|exact H
    have Ny104:=aM hy104;clear hy104;have H':=aM H;clear H;go_enter Try.func143,Try.ntmps143;go_wp2_with (first|((with_reducible refine gate_dst (N:=16) rfl ?_);refine Kd.R_make (Kd.int .i64) _ 3 rfl (N:=16) rfl 23 _ _ rfl ji3 rfl rfl Try.underlying23 (.int .i64 0) 8 info3 rfl (by decide) (by omega) 0 (ok:=fun _=>True) (okp:=fun _=>True) rfl (fun _ hk=>hk) trivial (of_decide_eq_true (by first|(with_reducible assumption)|assumption)) (Nat.le_trans (Nat.mul_le_mul_right _ (of_decide_eq_true (by first|(with_reducible assumption)|assumption):ji3.toNat≤35184372088832)) (by omega)) (Below.refl _ _) (Nat.le_refl _) ?_;intro v102 w6 ho7 hb hg_ hnew_;clear hg_ hnew_;(first|rw [←Ny101.out] at ho7|(simp only [Int.reduceToNat] at ho7;rw [←Ny101.out] at ho7));have n0_:=aM (Kd.R_lower (Kd.R_newM (M:=fun k_=>(w.heap.size≤k_)) ho7 (Qh (by repeat (first|(with_reducible first|exact HB.out|apply Qc|apply Qa|apply Qb)|exact HB.out))) (fun k_ h_=>h_)) (Qh (by repeat (first|(with_reducible first|exact HB.out|apply Qc|apply Qa|apply Qb)|exact HB.out))));have n1_:=aM (Qi (by repeat (first|(with_reducible first|exact HB.out|apply Qc|apply Qa|apply Qb)|exact HB.out)) hb);clear HB;have HO103:=n0_;have HB:=n1_;clear n0_ n1_;clear hb ho7;obtain ⟨Ao8,co8,eo8⟩:=Kd.R_slice HO103.out;subst eo8)|((with_reducible refine gate_dst (N:=18) rfl ?_);refine Kd.N_lit (Kd.slice 3 (Kd.int .i64)) _ 23 ?hg (N':=18) ?hd (xs:=([y101]:List (List Int))) (inner:=[.slice Ao8 y101.length co8]) (ok:=(fun k_=>(w.heap.size≤k_))) (okp:=(fun k_=>(w.heap.size≤k_))) ?hr ?hp (fun _ hk=>hk) ((show ∀ k_,w6.heap.size≤k_→(fun k_=>(w.heap.size≤k_)) k_ from fun k_ hk=>(Nat.le_trans (Qh (by repeat (first|(with_reducible first|exact HB.out|apply Qc|apply Qa|apply Qb)|exact HB.out))) hk)) _ (Nat.le_refl _)) (Below.refl _ _) (Nat.le_refl _) (by simp) ?_;(case hd=>rfl);(case hg=>rfl);(case hr=>first|(go_simp;done)|(go_simp;rfl));(case hp=>exact (Reps.one (show Kd.FK (Kd.slice 3 (Kd.int .i64)) _ _ y101 [.slice Ao8 y101.length co8] from (Kd.FK_slice_mk (Kd.R_reads' (Kd.R_mono (ok':=(fun k_=>(w.heap.size≤k_))) (HO103.out) (fun k_ hk=>hk.1))).2.1 (Kd.R_F (Kd.R_mono (ok':=(fun k_=>(w.heap.size≤k_))) (HO103.out) (fun k_ hk=>hk.1))))) (Reps.none _ _)));intro v105 w9 ho10 hb hg_ hnew_;clear hg_ hnew_;(first|rw [←Ny104.out] at ho10|(simp only [Int.reduceToNat] at ho10;rw [←Ny104.out] at ho10));have n0_:=aM (Kd.R_below (by (with_reducible repeat (first|apply Kd.R_alloc|apply Kd.R_drewN|apply Kd.R_drew));exact HO103.out) hb);have n1_:=aM (Kd.N_lower ho10 (Qh (by repeat (first|(with_reducible first|exact HB.out|apply Qc|apply Qa|apply Qb)|exact HB.out))));have n2_:=aM (Qi (by repeat (first|(with_reducible first|exact HB.out|apply Qc|apply Qa|apply Qb)|exact HB.out)) hb);clear HO103;clear HB;have HO103:=n0_;have HO106:=n1_;have HB:=n2_;clear n0_ n1_ n2_;clear hb ho10))
    go_loopg [5,6,21] k (fun kq v5 v6 v21 w'=>∃ (x5_1:List Int) (x6_1:List (List Int)) (x21_1:Int),v21= .int .i64 x21_1∧Aside0 (spec_l6Rows.l0 kq a1 x5_1 x6_1 l0 (l0.length:Int) x21_1=some r)∧Aside0 (kq≤k)∧Aside0 (Kd.R (Kd.int .i64) 3 w' w.heap.size (fun k_=>(w.heap.size≤k_)) v5 x5_1)∧Aside0 (Kd.N (Kd.slice 3 (Kd.int .i64)) 23 w' w.heap.size (fun k_=>(w.heap.size≤k_)) v6 x6_1)∧Aside0 (Below w.heap.size w w'))
    case atStart=>exact ⟨(y101),(y104),(0),(by first|rfl|(simp;done)|(simp [*];done)),H',⟨Nat.le_refl _⟩,⟨by (with_reducible repeat (first|apply Kd.R_alloc|apply Kd.R_drewN|apply Kd.R_drew));exact Kd.R_mono HO103.out (fun _ hk=>hk.1)⟩,⟨by (with_reducible repeat (first|apply Kd.Ql|apply Kd.Qm|apply Kd.N_drew));exact HO106.out⟩,⟨by repeat (first|(with_reducible first|exact HB.out|apply Qc|apply Qa|apply Qb)|exact HB.out)⟩⟩
    case round=>
     clear H';(try clear c1);(try clear p2);(try clear c4);(try clear c4b0);(try clear c4b1);(try clear c5);(try clear c5b0);(try clear c5b1);(try clear p6);obtain ⟨x5_1,x6_1,x21_1,rfl,HA,HK1,HO_5,HO_6,HB⟩:=hrel
     cases gk with
     |zero=>exact absurd HA.out (by simp [spec_l6Rows.l0])
     |succ k1=>
      have H:=HA.out;clear HA;simp only [spec_l6Rows.l0] at H;by_cases c11:x21_1<(l0.length:Int)
      ·rw [if_pos c11] at H;have c11b0:decide (x21_1<(l0.length:Int))=true:=decide_eq_true c11;clear c11;by_cases c12:0≤x21_1
       ·rw [if_pos c12] at H;have c12b0:decide (0≤x21_1)=true:=decide_eq_true c12;clear c12;by_cases c13:x21_1<(l0.length:Int)
        ·rw [if_pos c13] at H;have c13b0:decide (x21_1<(l0.length:Int))=true:=decide_eq_true c13;clear c13;replace H:(if 0≤(ji3) then (if (ji3:Int).toNat≤35184372088832 then ((some (List.replicate (ji3:Int).toNat 0:List Int)).bind fun y109=>(spec_l6Rows.l1 k1 a1 x5_1 x6_1 y109 l0 (l0.length:Int) x21_1 (y109.length:Int) 0 ((rd_T53 l0 x21_1).f0))) else (none)) else (none))=some r:=by first|(rw [hji3] at H;exact H)|(simp only [hji3] at H ⊢;exact H)
         by_cases c15:0≤(ji3)
         ·rw [if_pos c15] at H;have c15b0:=eq_true c15;have c15b1:decide (0≤(ji3))=true:=decide_eq_true c15;clear c15;by_cases c16:(ji3:Int).toNat≤35184372088832
          ·rw [if_pos c16] at H;have c16b0:=eq_true c16;have c16b1:decide ((ji3:Int).toNat≤35184372088832)=true:=decide_eq_true c16;clear c16;obtain ⟨y109,hy109⟩:∃ y_:List Int,y_=(List.replicate (ji3:Int).toNat 0):=⟨_,rfl⟩;replace H:(spec_l6Rows.l1 k1 a1 x5_1 x6_1 y109 l0 (l0.length:Int) x21_1 (y109.length:Int) 0 ((rd_T53 l0 x21_1).f0))=some r:=by first|(rw [hy109];with_reducible exact H)|(have H2_:=(Option.bind_some _ _).symm.trans H;rw [hy109];with_reducible exact H2_)|(have H2_:=(Option.bind_some _ _).symm.trans H;with_reducible exact H2_)|with_reducible exact H|(rw [hy109];exact H)|exact H
           have Ny109:=aM hy109;clear hy109;have H':=aM H;clear H;have p107:0≤(x21_1:Int):=of_decide_eq_true (by first|(with_reducible assumption)|assumption);have q107:x21_1<(l0.length:Int):=of_decide_eq_true (by first|(with_reducible assumption)|assumption);obtain ⟨ad107,A107_0,c107_0,e107,hx107_0,hl107_0,hi107_0⟩:=at_T53 HR0.out x21_1 p107 q107
           cases e107
           replace hx107_0:=(HB.out.cell (aI w _ hx107_0)).trans hx107_0;have HR107_0:=aM hi107_0;have HC107_0:=aM hl107_0;clear hi107_0 hl107_0;replace p107:=eq_true p107;replace q107:=eq_true q107;go_wp2_with (first|((with_reducible refine gate_dst (N:=8) rfl ?_);refine box_event ?hg (N:=8) ?hd (cs:=#[.slice none 0 0]) (t:=53) ?hr ?_;(case hd=>rfl);(case hg=>rfl);(case hr=>first|(go_simp;done)|(go_simp;rfl));intro gb108 hg w17 hbox hb;have n0_:=aM (Kd.R_below (by (with_reducible repeat (first|apply Kd.R_alloc|apply Kd.R_drewN|apply Kd.R_drew));exact HO_5.out) hb);have n1_:=aM (Kd.N_below (Kd.N_elderB (by (with_reducible repeat (first|apply Kd.Ql|apply Kd.Qm|apply Kd.N_drew));exact HO_6.out) gb108 (Nat.le_of_eq hg.symm)) hb);have n2_:=aM (Qi (by repeat (first|(with_reducible first|exact HB.out|apply Qc|apply Qa|apply Qb)|exact HB.out)) hb);have n3_:=aM (hbox);have n4_:=aM ((by rw [hg];exact (Qh (by repeat (first|(with_reducible first|exact HB.out|apply Qc|apply Qa|apply Qb)|exact HB.out))):w.heap.size≤gb108));have n5_:=aM ((by rw [hg];exact (Qh (by repeat (first|(with_reducible first|exact HB.out|apply Qc|apply Qa|apply Qb)|exact HB.out))):w.heap.size≤gb108));clear HO_5;clear HO_6;clear HB;have HO_5:=n0_;have HO_6:=n1_;have HB:=n2_;have BK108:=n3_;have GW108:=n4_;have GE108:=n5_;clear n0_ n1_ n2_ n3_ n4_ n5_;clear hb hbox hg;have hcz18_0:w17.cell? ⟨gb108,0,none⟩=some (.slice none 0 0):=(blk_cell BK108.out 0).trans rfl;have hfz18_0:=blk_frozen BK108.out 0)|((with_reducible refine gate_dst (N:=27) rfl ?_);refine Kd.R_make (Kd.int .i64) _ 3 rfl (N:=27) rfl 23 _ _ rfl ji3 rfl rfl Try.underlying23 (.int .i64 0) 8 info3 rfl (by decide) (by omega) 0 (ok:=fun _=>True) (okp:=fun _=>True) rfl (fun _ hk=>hk) trivial (of_decide_eq_true (by first|(with_reducible assumption)|assumption)) (Nat.le_trans (Nat.mul_le_mul_right _ (of_decide_eq_true (by first|(with_reducible assumption)|assumption):ji3.toNat≤35184372088832)) (by omega)) (Below.refl _ _) (Nat.le_refl _) ?_;intro v110 w19 ho20 hb hg_ hnew_;clear hg_ hnew_;(first|rw [←Ny109.out] at ho20|(simp only [Int.reduceToNat] at ho20;rw [←Ny109.out] at ho20));have n0_:=aM (Kd.R_elder' (by (with_reducible repeat (first|apply Kd.R_alloc|apply Kd.R_drewN|apply Kd.R_drew));exact (Kd.R_mono (Kd.R_far (p:=⟨gb108,0,none⟩) (Kd.R_types HO_5.out BK108.out (by decide)) (fun _ hk=>hk.2) (.slice A107_0 ((rd_T53 l0 x21_1).f0).length c107_0)) (fun _ h_=>h_.1))) (Kd.R_base ho20) hb);have n1_:=aM (Kd.N_elder' (by (with_reducible repeat (first|apply Kd.Ql|apply Kd.Qm|apply Kd.N_drew));exact (Kd.N_mono (Kd.N_far (p:=⟨gb108,0,none⟩) (Kd.N_mono HO_6.out (fun k_ hk=>(⟨hk,hk.2⟩:_∧k_≠gb108))) (fun _ hk=>hk.2) (.slice A107_0 ((rd_T53 l0 x21_1).f0).length c107_0)) (fun _ h_=>h_.1))) (Kd.R_base ho20) hb);have n2_:=aM (Kd.R_lower (Kd.R_new' (Kd.R_newM (M:=fun k_=>(w.heap.size≤k_)) ho20 (Qh (by repeat (first|(with_reducible first|exact HB.out|apply Qc|apply Qa|apply Qb|refine Qd ?_ GE108.out)|exact HB.out))) (fun k_ h_=>h_)) (Kd.R_lt (by (with_reducible repeat (first|apply Kd.R_alloc|apply Kd.R_drewN|apply Kd.R_drew));exact (Kd.R_mono (Kd.R_far (p:=⟨gb108,0,none⟩) (Kd.R_types HO_5.out BK108.out (by decide)) (fun _ hk=>hk.2) (.slice A107_0 ((rd_T53 l0 x21_1).f0).length c107_0)) (fun _ h_=>h_.1))))) (Qh (by repeat (first|(with_reducible first|exact HB.out|apply Qc|apply Qa|apply Qb|refine Qd ?_ GE108.out)|exact HB.out))));have n3_:=aM (blk_below (g:=gb108) (o:= .cells #[.slice A107_0 ((rd_T53 l0 x21_1).f0).length c107_0] 53 (0,0)) (by (with_reducible repeat (first|apply Qf|apply Qg|apply Qe));refine blk_put (cs:=#[.slice none 0 0]) ?_ 0 _ rfl;(with_reducible repeat (first|apply Qf|apply Qg|apply Qe));exact BK108.out) hb);have n4_:=aM (Qi (by repeat (first|(with_reducible first|exact HB.out|apply Qc|apply Qa|apply Qb|refine Qd ?_ GE108.out)|exact HB.out)) hb);clear HO_5;clear HO_6;clear BK108;clear HB;have HO_5:=n0_;have HO_6:=n1_;have HO111:=n2_;have BK108:=n3_;have HB:=n4_;clear n0_ n1_ n2_ n3_ n4_;clear hb ho20;obtain ⟨Ao21,co21,eo21⟩:=Kd.R_slice HO111.out;subst eo21))
           go_loopg [30] k1 (fun kq v30 w'=>∃ (x9_2:List Int) (x30_2:Int),v30= .int .i64 x30_2∧Aside0 (spec_l6Rows.l1 kq a1 x5_1 x6_1 x9_2 l0 (l0.length:Int) x21_1 (y109.length:Int) x30_2 ((rd_T53 l0 x21_1).f0)=some r)∧Aside0 (kq≤k1)∧Aside0 (Kd.R (Kd.int .i64) 3 w' w.heap.size (fun k_=>(w.heap.size≤k_)∧some k_≠((.slice Ao21 y109.length co21):Value).ownBlock) u5 x5_1)∧Aside0 (Kd.N (Kd.slice 3 (Kd.int .i64)) 23 w' w.heap.size (fun k_=>(w.heap.size≤k_)∧some k_≠((.slice Ao21 y109.length co21):Value).ownBlock∧k_≠gb108) u6 x6_1)∧Aside0 (Kd.R (Kd.int .i64) 3 w' w.heap.size (fun k_=>(w.heap.size≤k_)∧some k_≠(u5:Value).ownBlock) (.slice Ao21 y109.length co21) x9_2)∧Aside0 (w'.heap[gb108]? = some (.cells #[(.slice A107_0 ((rd_T53 l0 x21_1).f0).length c107_0)] 53 (0,0)))∧Aside0 (Below w.heap.size w w'))
           case atStart=>exact ⟨(y109),(0),(by first|rfl|(simp;done)|(simp [*];done)),H',⟨Nat.le_refl _⟩,⟨by (with_reducible repeat (first|apply Kd.R_alloc|apply Kd.R_drewN|apply Kd.R_drew));exact HO_5.out⟩,⟨by (with_reducible repeat (first|apply Kd.Ql|apply Kd.Qm|apply Kd.N_drew));exact Kd.N_mono HO_6.out (fun _ hk=>⟨hk.1.1,⟨hk.2,hk.1.2⟩⟩)⟩,⟨by (with_reducible repeat (first|apply Kd.R_alloc|apply Kd.R_drewN|apply Kd.R_drew));exact Kd.R_mono HO111.out (fun _ hk=>⟨hk.1.1,hk.2⟩)⟩,⟨by (with_reducible repeat (first|apply Qf|apply Qg|apply Qe));exact BK108.out⟩,⟨by repeat (first|(with_reducible first|exact HB.out|apply Qc|apply Qa|apply Qb|refine Qd ?_ GE108.out)|exact HB.out)⟩⟩
           case round=>
            clear H';(try clear c1);(try clear p1);(try clear q1);(try clear hx1);(try clear p2);(try clear c4);(try clear c4b0);(try clear c4b1);(try clear c5);(try clear c5b0);(try clear c5b1);(try clear p6);(try clear c10);(try clear p10);(try clear q10);(try clear hx10);(try clear c11);(try clear c11b0);(try clear c12);(try clear c12b0);(try clear c13);(try clear c13b0);(try clear c14);(try clear c15);(try clear c15b0);(try clear c15b1);(try clear c16);(try clear c16b0);(try clear c16b1);(try clear hcz18_0);(try clear hfz18_0);(try clear hx107_0);(try clear p107);(try clear p2);(try clear p6);(try clear q107);obtain ⟨x9_2,x30_2,rfl,HA,HK2,HO_5,HO_6,HO_9,BK108,HB⟩:=hrel;have hl9_2:=(Kd.R_reads' HO_9.out).1;rw [hl9_2] at HO_9;(try simp only [hl9_2]);(try simp only [hl9_2] at BK108);(try simp only [hl9_2] at HO_5);(try simp only [hl9_2] at HO_6)
            cases gk with
            |zero=>exact absurd HA.out (by simp [spec_l6Rows.l1])
            |succ k2=>
             have H:=HA.out;clear HA;simp only [spec_l6Rows.l1] at H;by_cases c22:x30_2<(y109.length:Int)
             ·rw [if_pos c22] at H;have c22b0:decide (x30_2<(y109.length:Int))=true:=decide_eq_true c22;have c22b0l:=c22b0;(try simp only [hl9_2] at c22b0l);clear c22;by_cases c23:0≤x30_2
              ·rw [if_pos c23] at H;have c23b0:decide (0≤x30_2)=true:=decide_eq_true c23;clear c23;by_cases c24:x30_2<(x5_1.length:Int)
               ·rw [if_pos c24] at H;have c24b0:decide (x30_2<(x5_1.length:Int))=true:=decide_eq_true c24;clear c24;have H':=aM H;clear H;obtain ⟨Ao25,co25,eo25⟩:=Kd.R_slice HO_5.out;subst eo25;have p115:0≤(x30_2:Int):=of_decide_eq_true (by first|(with_reducible assumption)|assumption);have q115:x30_2<(x5_1.length:Int):=of_decide_eq_true (by first|(with_reducible assumption)|assumption);obtain ⟨ad115,e115,hx115_0⟩:=Kd.at_int (Kd.R_reads' HO_5.out).2.2 x30_2 p115 q115
                cases e115
                replace p115:=eq_true p115;replace q115:=eq_true q115;go_wp2;go_loopg [11,12] k2 (fun kq v11 v12 w'=>∃ (x11_3:Int) (x12_3:Int),v11= .int .i64 x11_3∧v12= .int .i64 x12_3∧Aside0 (spec_l6Rows.l2 kq a1 x5_1 x6_1 x9_2 x30_2 x11_3 x12_3 l0 (l0.length:Int) x21_1 (y109.length:Int) x30_2 ((rd_T53 l0 x21_1).f0)=some r)∧Aside0 (kq≤k2)∧Aside0 (Kd.R (Kd.int .i64) 3 w' w.heap.size (fun k_=>(w.heap.size≤k_)∧some k_≠((.slice Ao21 x9_2.length co21):Value).ownBlock) (.slice (some ad115) x5_1.length co25) x5_1)∧Aside0 (Kd.N (Kd.slice 3 (Kd.int .i64)) 23 w' w.heap.size (fun k_=>(w.heap.size≤k_)∧some k_≠((.slice Ao21 x9_2.length co21):Value).ownBlock∧k_≠gb108) u6 x6_1)∧Aside0 (Kd.R (Kd.int .i64) 3 w' w.heap.size (fun k_=>(w.heap.size≤k_)∧some k_≠((.slice (some ad115) x5_1.length co25):Value).ownBlock) (.slice Ao21 x9_2.length co21) x9_2)∧Aside0 (w'.heap[gb108]? = some (.cells #[(.slice A107_0 ((rd_T53 l0 x21_1).f0).length c107_0)] 53 (0,0)))∧Aside0 (Below w.heap.size w w'))
                case atStart=>exact ⟨(rd x5_1 x30_2),(1),(by first|rfl|(simp;done)|(simp [*];done)),(by first|rfl|(simp;done)|(simp [*];done)),H',⟨Nat.le_refl _⟩,⟨by (try simp only [hl9_2]);(with_reducible repeat (first|apply Kd.R_alloc|apply Kd.R_drewN|apply Kd.R_drew));exact HO_5.out⟩,⟨by (try simp only [hl9_2]);(with_reducible repeat (first|apply Kd.Ql|apply Kd.Qm|apply Kd.N_drew));exact HO_6.out⟩,⟨by (try simp only [hl9_2]);(with_reducible repeat (first|apply Kd.R_alloc|apply Kd.R_drewN|apply Kd.R_drew));exact HO_9.out⟩,⟨by (try simp only [hl9_2]);(with_reducible repeat (first|apply Qf|apply Qg|apply Qe));exact BK108.out⟩,⟨by repeat (first|(with_reducible first|exact HB.out|apply Qc|apply Qa|apply Qb|refine Qd ?_ GE108.out)|exact HB.out)⟩⟩
                case round=>
                 clear H';(try clear c1);(try clear p1);(try clear q1);(try clear hx1);(try clear c2);(try clear p2);(try clear c4);(try clear c4b0);(try clear c4b1);(try clear c5);(try clear c5b0);(try clear c5b1);(try clear p6);(try clear c10);(try clear p10);(try clear q10);(try clear hx10);(try clear c11);(try clear c11b0);(try clear p11);(try clear q11);(try clear hx11);(try clear c12);(try clear c12b0);(try clear c13);(try clear c13b0);(try clear c14);(try clear c15);(try clear c15b0);(try clear c15b1);(try clear c16);(try clear c16b0);(try clear c16b1);(try clear c22);(try clear c22b0);(try clear c23);(try clear c23b0);(try clear c24);(try clear c24b0);(try clear hcz18_0);(try clear hfz18_0);(try clear hx107_0);(try clear hx115_0);(try clear p1);(try clear p10);(try clear p107);(try clear p115);(try clear p2);(try clear p6);(try clear q1);(try clear q10);(try clear q107);(try clear q115);obtain ⟨x11_3,x12_3,rfl,rfl,HA,HK3,HO_5,HO_6,HO_9,BK108,HB⟩:=hrel
                 cases gk with
                 |zero=>exact absurd HA.out (by simp [spec_l6Rows.l2])
                 |succ k3=>
                  have H:=HA.out;clear HA;simp only [spec_l6Rows.l2] at H;have HC26:=aM H;clear H
                  go_upto_region 12 with (fail)
                  go_cut [46] (fun v46 wc=>∃ (kq:Nat) (x46_25:Bool),v46= .bool x46_25∧Aside0 (spec_l6Rows.j3 kq a1 x5_1 x6_1 x9_2 x30_2 x11_3 x12_3 l0 (l0.length:Int) x21_1 (y109.length:Int) x30_2 x46_25 ((rd_T53 l0 x21_1).f0)=some r)∧Aside0 (kq≤k3)∧Aside0 (Kd.R (Kd.int .i64) 3 wc w.heap.size (fun k_=>(w.heap.size≤k_)∧some k_≠((.slice Ao21 x9_2.length co21):Value).ownBlock) (.slice (some ad115) x5_1.length co25) x5_1)∧Aside0 (Kd.N (Kd.slice 3 (Kd.int .i64)) 23 wc w.heap.size (fun k_=>(w.heap.size≤k_)∧some k_≠((.slice Ao21 x9_2.length co21):Value).ownBlock∧k_≠gb108) u6 x6_1)∧Aside0 (Kd.R (Kd.int .i64) 3 wc w.heap.size (fun k_=>(w.heap.size≤k_)∧some k_≠((.slice (some ad115) x5_1.length co25):Value).ownBlock) (.slice Ao21 x9_2.length co21) x9_2)∧Aside0 (wc.heap[gb108]? = some (.cells #[(.slice A107_0 ((rd_T53 l0 x21_1).f0).length c107_0)] 53 (0,0)))∧Aside0 (Below w.heap.size w wc))
                  case first=>
                   have H:=HC26.out;clear HC26;by_cases c27:x12_3≤(((rd_T53 l0 x21_1).f0).length:Int)
                   ·rw [if_pos c27] at H;have c27b0:decide (x12_3≤(((rd_T53 l0 x21_1).f0).length:Int))=true:=decide_eq_true c27;clear c27
                    (first|rw [c27b0]|(simp only [i64_w,i32_w];rw [c27b0])|skip)
                    have H':=aM H;clear H;have hcz28_0:wr.cell? ⟨gb108,0,none⟩=some (.slice A107_0 ((rd_T53 l0 x21_1).f0).length c107_0):=(blk_cell BK108.out 0).trans rfl;have hfz28_0:=blk_frozen BK108.out 0;go_wp2
                    go_meet
                    case rel=>exact ⟨_,(decide (x12_3≤x30_2)),(by first|rfl|(simp;done)|(simp [*];done)),H',⟨by have:=HK1.out;have:=HK2.out;have:=HK3.out;first|omega|exact Nat.le_refl _⟩,⟨by (try simp only [hl9_2]);(with_reducible repeat (first|apply Kd.R_alloc|apply Kd.R_drewN|apply Kd.R_drew));exact HO_5.out⟩,⟨by (try simp only [hl9_2]);(with_reducible repeat (first|apply Kd.Ql|apply Kd.Qm|apply Kd.N_drew));exact HO_6.out⟩,⟨by (try simp only [hl9_2]);(with_reducible repeat (first|apply Kd.R_alloc|apply Kd.R_drewN|apply Kd.R_drew));exact HO_9.out⟩,⟨by (try simp only [hl9_2]);(with_reducible repeat (first|apply Qf|apply Qg|apply Qe));exact BK108.out⟩,⟨by repeat (first|(with_reducible first|exact HB.out|apply Qc|apply Qa|apply Qb|refine Qd ?_ GE108.out)|exact HB.out)⟩⟩
                   ·rw [if_neg c27] at H;have c27b0:decide (x12_3≤(((rd_T53 l0 x21_1).f0).length:Int))=false:=decide_eq_false c27;clear c27
                    (first|rw [c27b0]|(simp only [i64_w,i32_w];rw [c27b0])|skip)
                    have H':=aM H;clear H;have hcz29_0:wr.cell? ⟨gb108,0,none⟩=some (.slice A107_0 ((rd_T53 l0 x21_1).f0).length c107_0):=(blk_cell BK108.out 0).trans rfl;have hfz29_0:=blk_frozen BK108.out 0;go_wp2
                    go_meet
                    case rel=>exact ⟨_,(false),(by first|rfl|(simp;done)|(simp [*];done)),H',⟨by have:=HK1.out;have:=HK2.out;have:=HK3.out;first|omega|exact Nat.le_refl _⟩,⟨by (try simp only [hl9_2]);(with_reducible repeat (first|apply Kd.R_alloc|apply Kd.R_drewN|apply Kd.R_drew));exact HO_5.out⟩,⟨by (try simp only [hl9_2]);(with_reducible repeat (first|apply Kd.Ql|apply Kd.Qm|apply Kd.N_drew));exact HO_6.out⟩,⟨by (try simp only [hl9_2]);(with_reducible repeat (first|apply Kd.R_alloc|apply Kd.R_drewN|apply Kd.R_drew));exact HO_9.out⟩,⟨by (try simp only [hl9_2]);(with_reducible repeat (first|apply Qf|apply Qg|apply Qe));exact BK108.out⟩,⟨by repeat (first|(with_reducible first|exact HB.out|apply Qc|apply Qa|apply Qb|refine Qd ?_ GE108.out)|exact HB.out)⟩⟩
                  case rest=>
                   clear HC26;(try clear c1);(try clear p1);(try clear q1);(try clear hx1);(try clear c2);(try clear p2);(try clear c4);(try clear c4b0);(try clear c4b1);(try clear c5);(try clear c5b0);(try clear c5b1);(try clear p6);(try clear c10);(try clear p10);(try clear q10);(try clear hx10);(try clear c11);(try clear c11b0);(try clear p11);(try clear q11);(try clear hx11);(try clear c12);(try clear c12b0);(try clear c13);(try clear c13b0);(try clear c14);(try clear c15);(try clear c15b0);(try clear c15b1);(try clear c16);(try clear c16b0);(try clear c16b1);(try clear c22);(try clear c22b0);(try clear c23);(try clear c23b0);(try clear c24);(try clear c24b0);(try clear c27);(try clear c27b0);(try clear hcz18_0);(try clear hcz28_0);(try clear hcz29_0);(try clear hfz18_0);(try clear hfz28_0);(try clear hfz29_0);(try clear hx107_0);(try clear hx115_0);(try clear p1);(try clear p10);(try clear p107);(try clear p11);(try clear p115);(try clear p2);(try clear p6);(try clear q1);(try clear q10);(try clear q107);(try clear q11);(try clear q115);obtain ⟨kq,x46_25,rfl,HA,HJ25,HO_5,HO_6,HO_9,BK108,HB⟩:=hcut
                   cases kq with
                   |zero=>exact absurd HA.out (by simp [spec_l6Rows.j3])
                   |succ kj25=>
                    have H:=HA.out;clear HA;simp only [spec_l6Rows.j3] at H;by_cases c30:x46_25=true
                    ·subst c30;have H1:(if 0≤(wrap64 (x30_2 - x12_3)) then (if (wrap64 (x30_2 - x12_3))<(x5_1.length:Int) then ((spec_l6Gain.f ((rd_T53 l0 x21_1).f0) x12_3).bind fun t117=>(if (wrap64 ((rd x5_1 (wrap64 (x30_2 - x12_3)))+t117)) > x11_3 then (spec_l6Rows.l2 kj25 a1 x5_1 x6_1 x9_2 x30_2 (wrap64 ((rd x5_1 (wrap64 (x30_2 - x12_3)))+t117)) (wrap64 (x12_3+1)) l0 (l0.length:Int) x21_1 (y109.length:Int) x30_2 ((rd_T53 l0 x21_1).f0)) else (spec_l6Rows.l2 kj25 a1 x5_1 x6_1 x9_2 x30_2 x11_3 (wrap64 (x12_3+1)) l0 (l0.length:Int) x21_1 (y109.length:Int) x30_2 ((rd_T53 l0 x21_1).f0)))) else (none)) else (none))=some r:=by rw [if_pos rfl] at H;exact H
                     clear H;have H:=H1;clear H1;obtain ⟨ji31,hji31⟩:∃ j_:Int,(wrap64 (x30_2 - x12_3))=j_:=⟨_,rfl⟩;replace H:(if 0≤(ji31) then (if (ji31)<(x5_1.length:Int) then ((spec_l6Gain.f ((rd_T53 l0 x21_1).f0) x12_3).bind fun t117=>(if (wrap64 ((rd x5_1 (ji31))+t117)) > x11_3 then (spec_l6Rows.l2 kj25 a1 x5_1 x6_1 x9_2 x30_2 (wrap64 ((rd x5_1 (ji31))+t117)) (wrap64 (x12_3+1)) l0 (l0.length:Int) x21_1 (y109.length:Int) x30_2 ((rd_T53 l0 x21_1).f0)) else (spec_l6Rows.l2 kj25 a1 x5_1 x6_1 x9_2 x30_2 x11_3 (wrap64 (x12_3+1)) l0 (l0.length:Int) x21_1 (y109.length:Int) x30_2 ((rd_T53 l0 x21_1).f0)))) else (none)) else (none))=some r:=by first|(rw [hji31] at H;exact H)|(simp only [hji31] at H ⊢;exact H)
                     have hji31w:(IntKind.i64.wrap (x30_2 - x12_3))=ji31:=(i64_w _).trans hji31;by_cases c32:0≤(ji31)
                     ·rw [if_pos c32] at H;have c32b0:decide (0≤(ji31))=true:=decide_eq_true c32;clear c32;by_cases c33:(ji31)<(x5_1.length:Int)
                      ·rw [if_pos c33] at H;have c33b0:decide ((ji31)<(x5_1.length:Int))=true:=decide_eq_true c33;clear c33;replace H:=Option.bind_eq_some_iff.mp H;obtain ⟨t117,A340,H⟩:=H;replace H:(if (wrap64 ((rd x5_1 (ji31))+t117)) > x11_3 then (spec_l6Rows.l2 kj25 a1 x5_1 x6_1 x9_2 x30_2 (wrap64 ((rd x5_1 (ji31))+t117)) (wrap64 (x12_3+1)) l0 (l0.length:Int) x21_1 (y109.length:Int) x30_2 ((rd_T53 l0 x21_1).f0)) else (spec_l6Rows.l2 kj25 a1 x5_1 x6_1 x9_2 x30_2 x11_3 (wrap64 (x12_3+1)) l0 (l0.length:Int) x21_1 (y109.length:Int) x30_2 ((rd_T53 l0 x21_1).f0)))=some r:=H;have A34:=aM A340;clear A340;by_cases c35:(wrap64 ((rd x5_1 (ji31))+t117)) > x11_3
                       ·rw [if_pos c35] at H;have c35b0:decide (x11_3<(wrap64 ((rd x5_1 (ji31))+t117)))=true:=decide_eq_true c35;(try (have c35b0w:decide (x11_3<(IntKind.i64.wrap ((rd x5_1 (ji31))+t117)))=true:=by (try simp only [i64_w]);exact c35b0));clear c35;have H':=aM H;clear H
                        try go_wp2
                        have n0_:=aM (Kd.R_drew HO_5.out);have n1_:=aM (Kd.N_drew HO_6.out);have n2_:=aM (Kd.R_drew HO_9.out);have n3_:=aM (Qg BK108.out);have n4_:=aM (Qb HB.out);clear HO_5;clear HO_6;clear HO_9;clear BK108;clear HB;have HO_5:=n0_;have HO_6:=n1_;have HO_9:=n2_;have BK108:=n3_;have HB:=n4_;clear n0_ n1_ n2_ n3_ n4_;have p116:0≤((ji31):Int):=of_decide_eq_true (by first|(with_reducible assumption)|assumption);have q116:(ji31)<(x5_1.length:Int):=of_decide_eq_true (by first|(with_reducible assumption)|assumption);obtain ⟨ad116,e116,hx116_0⟩:=Kd.at_int (Kd.R_reads' HO_5.out).2.2 (ji31) p116 q116;obtain rfl:ad115=ad116:=(by injection e116);replace p116:=eq_true p116;replace q116:=eq_true q116;refine start_ (n:=11) (S:=fun w'=>w'.cell? ⟨gb108,0,none⟩=some (.slice A107_0 ((rd_T53 l0 x21_1).f0).length c107_0)∧w'.cell? (ad115.add ((ji31)).toNat)=some (.int .i64 (rd x5_1 (ji31)))) (ds:=[]) #[false,false,false,false,false,false,false,false,false,false,false] (by kernel_rfl) rfl rfl ⟨(blk_cell BK108.out 0).trans rfl,hx116_0⟩ (fun hHeld=>?_);refine with_tabW spec_l6Rows.tab14 spec_l6Rows.bits14 (fun HT_ HW_=>?_)
                        generalize wc.drew=w36 at HO_5 HO_6 HO_9 BK108 HB hx116_0 hHeld ⊢
                        refine pure_ (i:=0) (N:=some 49) (v:=?_) (a':=?_) #[true,false,false,false,false,false,false,false,false,false,false] rfl rfl (any_of HT_.out (by kernel_rfl)) (fun _ _ _ h=>h) (Or.inl ⟨by rfl,?_⟩) ?_ ?_
                        rotate_left
                        ·intro w'
                         go_simp
                         with_reducible rfl
                        rotate_left
                        ·simp only [Act.put,aA,aB,aC,i64_w,i32_w]
                         rfl
                        refine pure_ (i:=1) (N:=some 50) (v:=?_) (a':=?_) #[true,true,false,false,false,false,false,false,false,false,false] rfl rfl (any_of HT_.out (by kernel_rfl)) (fun _ _ _ h=>h) (Or.inl ⟨by rfl,?_⟩) ?_ ?_
                        rotate_left
                        ·intro w'
                         go_simp
                         with_reducible rfl
                        rotate_left
                        ·simp only [Act.put,aA,aB,aC,i64_w,i32_w]
                         rfl
                        refine pure_ (i:=2) (N:=some 51) (v:=?_) (a':=?_) #[true,true,true,false,false,false,false,false,false,false,false] rfl rfl (any_of HT_.out (by kernel_rfl)) (fun _ _ _ h=>h) (Or.inl ⟨by rfl,?_⟩) ?_ ?_
                        rotate_left
                        ·intro w'
                         go_simp
                         with_reducible rfl
                        rotate_left
                        ·simp only [Act.put,aA,aB,aC,i64_w,i32_w]
                         rfl
                        refine pure_ (i:=3) (N:=some 52) (v:=?_) (a':=?_) #[true,true,true,true,false,false,false,false,false,false,false] rfl rfl (any_of HT_.out (by kernel_rfl)) (fun _ _ _ h=>h) (Or.inl ⟨by rfl,?_⟩) ?_ ?_
                        rotate_left
                        ·intro w'
                         go_simp
                         with_reducible rfl
                        rotate_left
                        ·simp only [Act.put,aA,aB,aC,i64_w,i32_w]
                         rfl
                        refine pure_ (i:=4) (N:=some 53) (v:=?_) (a':=?_) #[true,true,true,true,true,false,false,false,false,false,false] rfl rfl (any_of HT_.out (by kernel_rfl)) (fun _ _ _ h=>h) (Or.inl ⟨by rfl,?_⟩) ?_ ?_
                        rotate_left
                        ·intro w'
                         go_simp
                         with_reducible rfl
                        rotate_left
                        ·simp only [Act.put,aA,aB,aC,i64_w,i32_w]
                         rfl
                        refine pure_ (i:=7) (N:=some 56) (v:=?_) (a':=?_) #[true,true,true,true,true,false,false,true,false,false,false] rfl rfl (any_of HT_.out (by kernel_rfl)) (fun _ _ _ h=>h) (Or.inl ⟨by rfl,?_⟩) ?_ ?_
                        rotate_left
                        ·intro w'
                         go_simp
                         with_reducible rfl
                        rotate_left
                        ·simp only [Act.put,aA,aB,aC,i64_w,i32_w]
                         rfl
                        refine take_ (i:=5) (N:=some 54) (v:=?_) (a':=?_) #[true,true,true,true,true,true,false,true,false,false,false] rfl rfl (take_ofW HT_.out HW_.out (by kernel_rfl)) (fun _ _ _ h=>h) (Or.inl ⟨by rfl,?_⟩) hHeld ?_ ?_
                        rotate_left
                        ·rintro w' ⟨s0,s1⟩
                         go_simp
                         with_reducible rfl
                        rotate_left
                        ·simp only [Act.put,aA,aB,aC,i64_w,i32_w]
                         rfl
                        refine take_ (i:=6) (N:=some 55) (v:=?_) (a':=?_) #[true,true,true,true,true,true,true,true,false,false,false] rfl rfl (take_ofW HT_.out HW_.out (by kernel_rfl)) (fun _ _ _ h=>h) (Or.inl ⟨by rfl,?_⟩) hHeld ?_ ?_
                        rotate_left
                        ·rintro w' ⟨s0,s1⟩
                         go_simp
                         with_reducible rfl
                        rotate_left
                        ·simp only [Act.put,aA,aB,aC,i64_w,i32_w]
                         rfl
                        refine one_ (i:=8) (N:=some 57) #[true,true,true,true,true,true,true,true,true,false,false] rfl rfl (one_of HT_.out (by kernel_rfl)) (by decide) (fun K hK=>?_)
                        first|(refine goes_ Try.func147 (by kernel_rfl) rfl #[.agg #[.slice A107_0 ((rd_T53 l0 x21_1).f0).length c107_0],.int .i64 x12_3] (by rfl) rfl rfl (by (try simp only [aD,aE,aF]);first|done|rfl|(simp only [aG,aH];rfl)) ?_)|(refine call_ 147 #[.agg #[.slice A107_0 ((rd_T53 l0 x21_1).f0).length c107_0],.int .i64 x12_3] (by rfl) rfl (by unfold execOp;simp [resolve,Deferred.ofValue,invoke,Act.eval,enters_ Try.func147 (by kernel_rfl) rfl]) ?_)
                        with_reducible refine (spec_l6Gain.calls _ _ ((rd_T53 l0 x21_1).f0) x12_3 t117 _ ?side1 ?side2 A34.out).mono ?_
                        (case side1=>repeat (first|exact (Kd.C_below HR107_0.out HB.out)|(with_reducible refine Kd.Qj ?_ _)|(with_reducible refine Kd.Qk ?_ _)|(with_reducible refine Kd.C_drew ?_)))
                        (case side2=>exact HC107_0.out)
                        rintro e w37 ⟨rfl,hb⟩
                        have HS1_:=(hb.cell (aI _ _ (hHeld.2))).trans (hHeld.2);refine ⟨_,rfl,?_⟩;have n0_:=aM (Kd.R_below (by (with_reducible repeat (first|apply Kd.R_alloc|apply Kd.R_drewN|apply Kd.R_drew));exact HO_5.out) hb);have n1_:=aM (Kd.N_below (by (with_reducible repeat (first|apply Kd.Ql|apply Kd.Qm|apply Kd.N_drew));exact HO_6.out) hb);have n2_:=aM (Kd.R_below (by (with_reducible repeat (first|apply Kd.R_alloc|apply Kd.R_drewN|apply Kd.R_drew));exact HO_9.out) hb);have n3_:=aM (blk_below (g:=gb108) (o:= .cells #[.slice A107_0 ((rd_T53 l0 x21_1).f0).length c107_0] 53 (0,0)) (by (with_reducible repeat (first|apply Qf|apply Qg|apply Qe));exact BK108.out) hb);have n4_:=aM (Qi (by repeat (first|(with_reducible first|exact HB.out|apply Qc|apply Qa|apply Qb|refine Qd ?_ GE108.out)|exact HB.out)) hb);clear HO_5;clear HO_6;clear HO_9;clear BK108;clear HB;have HO_5:=n0_;have HO_6:=n1_;have HO_9:=n2_;have BK108:=n3_;have HB:=n4_;clear n0_ n1_ n2_ n3_ n4_;(try clear hb);(try clear hb2);(try clear hk);(try clear hi);refine hK.out _ _ ⟨(blk_cell BK108.out 0).trans rfl,HS1_⟩ (fun hHeld=>?_);clear hK K;refine norm_ (a':=?_) ?_ ?_
                        rotate_left
                        ·show Act.put _ (some 57) _=_
                         simp only [Act.put,aA,aB,aC,i64_w,i32_w]
                         rfl
                        refine pure_ (i:=9) (N:=some 58) (v:=?_) (a':=?_) #[true,true,true,true,true,true,true,true,true,true,false] rfl rfl (any_of HT_.out (by kernel_rfl)) (fun _ _ _ h=>h) (Or.inl ⟨by rfl,?_⟩) ?_ ?_
                        rotate_left
                        ·intro w'
                         go_simp
                         with_reducible rfl
                        rotate_left
                        ·simp only [Act.put,aA,aB,aC,i64_w,i32_w]
                         rfl
                        refine pure_ (i:=10) (N:=some 13) (v:=?_) (a':=?_) #[true,true,true,true,true,true,true,true,true,true,true] rfl rfl (any_of HT_.out (by kernel_rfl)) (fun _ _ _ h=>h) (Or.inl ⟨by rfl,?_⟩) ?_ ?_
                        rotate_left
                        ·intro w'
                         go_simp
                         with_reducible rfl
                        rotate_left
                        ·simp only [Act.put,aA,aB,aC,i64_w,i32_w]
                         rfl
                        refine done_ (done_of HT_.out (by kernel_rfl)) ?_
                        try go_wp2
                        go_roundg kj25
                        case measure=>have:=HK1.out;have:=HK2.out;have:=HK3.out;have:=HJ25.out;omega
                        case rel=>exact ⟨(wrap64 ((rd x5_1 (ji31))+t117)),(wrap64 (x12_3+1)),(by first|rfl|(simp;done)|(simp only [←hji31] <;> (first|rfl|simp))|(simp [*];done)),(by first|rfl|(simp;done)|(simp [*];done)),H',⟨by have:=HK1.out;have:=HK2.out;have:=HK3.out;have:=HJ25.out;omega⟩,⟨by (try simp only [hl9_2]);(with_reducible repeat (first|apply Kd.R_alloc|apply Kd.R_drewN|apply Kd.R_drew));exact HO_5.out⟩,⟨by (try simp only [hl9_2]);(with_reducible repeat (first|apply Kd.Ql|apply Kd.Qm|apply Kd.N_drew));exact HO_6.out⟩,⟨by (try simp only [hl9_2]);(with_reducible repeat (first|apply Kd.R_alloc|apply Kd.R_drewN|apply Kd.R_drew));exact HO_9.out⟩,⟨by (try simp only [hl9_2]);(with_reducible repeat (first|apply Qf|apply Qg|apply Qe));exact BK108.out⟩,⟨by repeat (first|(with_reducible first|exact HB.out|apply Qc|apply Qa|apply Qb|refine Qd ?_ GE108.out)|exact HB.out)⟩⟩
                       ·rw [if_neg c35] at H;have c35b0:decide (x11_3<(wrap64 ((rd x5_1 (ji31))+t117)))=false:=decide_eq_false c35;(try (have c35b0w:decide (x11_3<(IntKind.i64.wrap ((rd x5_1 (ji31))+t117)))=false:=by (try simp only [i64_w]);exact c35b0));clear c35;have H':=aM H;clear H
                        try go_wp2
                        have n0_:=aM (Kd.R_drew HO_5.out);have n1_:=aM (Kd.N_drew HO_6.out);have n2_:=aM (Kd.R_drew HO_9.out);have n3_:=aM (Qg BK108.out);have n4_:=aM (Qb HB.out);clear HO_5;clear HO_6;clear HO_9;clear BK108;clear HB;have HO_5:=n0_;have HO_6:=n1_;have HO_9:=n2_;have BK108:=n3_;have HB:=n4_;clear n0_ n1_ n2_ n3_ n4_;have p116:0≤((ji31):Int):=of_decide_eq_true (by first|(with_reducible assumption)|assumption);have q116:(ji31)<(x5_1.length:Int):=of_decide_eq_true (by first|(with_reducible assumption)|assumption);obtain ⟨ad116,e116,hx116_0⟩:=Kd.at_int (Kd.R_reads' HO_5.out).2.2 (ji31) p116 q116;obtain rfl:ad115=ad116:=(by injection e116);replace p116:=eq_true p116;replace q116:=eq_true q116;refine start_ (n:=11) (S:=fun w'=>w'.cell? ⟨gb108,0,none⟩=some (.slice A107_0 ((rd_T53 l0 x21_1).f0).length c107_0)∧w'.cell? (ad115.add ((ji31)).toNat)=some (.int .i64 (rd x5_1 (ji31)))) (ds:=[]) #[false,false,false,false,false,false,false,false,false,false,false] (by kernel_rfl) rfl rfl ⟨(blk_cell BK108.out 0).trans rfl,hx116_0⟩ (fun hHeld=>?_);refine with_tabW spec_l6Rows.tab14 spec_l6Rows.bits14 (fun HT_ HW_=>?_)
                        generalize wc.drew=w38 at HO_5 HO_6 HO_9 BK108 HB hx116_0 hHeld ⊢
                        refine pure_ (i:=0) (N:=some 49) (v:=?_) (a':=?_) #[true,false,false,false,false,false,false,false,false,false,false] rfl rfl (any_of HT_.out (by kernel_rfl)) (fun _ _ _ h=>h) (Or.inl ⟨by rfl,?_⟩) ?_ ?_
                        rotate_left
                        ·intro w'
                         go_simp
                         with_reducible rfl
                        rotate_left
                        ·simp only [Act.put,aA,aB,aC,i64_w,i32_w]
                         rfl
                        refine pure_ (i:=1) (N:=some 50) (v:=?_) (a':=?_) #[true,true,false,false,false,false,false,false,false,false,false] rfl rfl (any_of HT_.out (by kernel_rfl)) (fun _ _ _ h=>h) (Or.inl ⟨by rfl,?_⟩) ?_ ?_
                        rotate_left
                        ·intro w'
                         go_simp
                         with_reducible rfl
                        rotate_left
                        ·simp only [Act.put,aA,aB,aC,i64_w,i32_w]
                         rfl
                        refine pure_ (i:=2) (N:=some 51) (v:=?_) (a':=?_) #[true,true,true,false,false,false,false,false,false,false,false] rfl rfl (any_of HT_.out (by kernel_rfl)) (fun _ _ _ h=>h) (Or.inl ⟨by rfl,?_⟩) ?_ ?_
                        rotate_left
                        ·intro w'
                         go_simp
                         with_reducible rfl
                        rotate_left
                        ·simp only [Act.put,aA,aB,aC,i64_w,i32_w]
                         rfl
                        refine pure_ (i:=3) (N:=some 52) (v:=?_) (a':=?_) #[true,true,true,true,false,false,false,false,false,false,false] rfl rfl (any_of HT_.out (by kernel_rfl)) (fun _ _ _ h=>h) (Or.inl ⟨by rfl,?_⟩) ?_ ?_
                        rotate_left
                        ·intro w'
                         go_simp
                         with_reducible rfl
                        rotate_left
                        ·simp only [Act.put,aA,aB,aC,i64_w,i32_w]
                         rfl
                        refine pure_ (i:=4) (N:=some 53) (v:=?_) (a':=?_) #[true,true,true,true,true,false,false,false,false,false,false] rfl rfl (any_of HT_.out (by kernel_rfl)) (fun _ _ _ h=>h) (Or.inl ⟨by rfl,?_⟩) ?_ ?_
                        rotate_left
                        ·intro w'
                         go_simp
                         with_reducible rfl
                        rotate_left
                        ·simp only [Act.put,aA,aB,aC,i64_w,i32_w]
                         rfl
                        refine pure_ (i:=7) (N:=some 56) (v:=?_) (a':=?_) #[true,true,true,true,true,false,false,true,false,false,false] rfl rfl (any_of HT_.out (by kernel_rfl)) (fun _ _ _ h=>h) (Or.inl ⟨by rfl,?_⟩) ?_ ?_
                        rotate_left
                        ·intro w'
                         go_simp
                         with_reducible rfl
                        rotate_left
                        ·simp only [Act.put,aA,aB,aC,i64_w,i32_w]
                         rfl
                        refine take_ (i:=5) (N:=some 54) (v:=?_) (a':=?_) #[true,true,true,true,true,true,false,true,false,false,false] rfl rfl (take_ofW HT_.out HW_.out (by kernel_rfl)) (fun _ _ _ h=>h) (Or.inl ⟨by rfl,?_⟩) hHeld ?_ ?_
                        rotate_left
                        ·rintro w' ⟨s0,s1⟩
                         go_simp
                         with_reducible rfl
                        rotate_left
                        ·simp only [Act.put,aA,aB,aC,i64_w,i32_w]
                         rfl
                        refine take_ (i:=6) (N:=some 55) (v:=?_) (a':=?_) #[true,true,true,true,true,true,true,true,false,false,false] rfl rfl (take_ofW HT_.out HW_.out (by kernel_rfl)) (fun _ _ _ h=>h) (Or.inl ⟨by rfl,?_⟩) hHeld ?_ ?_
                        rotate_left
                        ·rintro w' ⟨s0,s1⟩
                         go_simp
                         with_reducible rfl
                        rotate_left
                        ·simp only [Act.put,aA,aB,aC,i64_w,i32_w]
                         rfl
                        refine one_ (i:=8) (N:=some 57) #[true,true,true,true,true,true,true,true,true,false,false] rfl rfl (one_of HT_.out (by kernel_rfl)) (by decide) (fun K hK=>?_)
                        first|(refine goes_ Try.func147 (by kernel_rfl) rfl #[.agg #[.slice A107_0 ((rd_T53 l0 x21_1).f0).length c107_0],.int .i64 x12_3] (by rfl) rfl rfl (by (try simp only [aD,aE,aF]);first|done|rfl|(simp only [aG,aH];rfl)) ?_)|(refine call_ 147 #[.agg #[.slice A107_0 ((rd_T53 l0 x21_1).f0).length c107_0],.int .i64 x12_3] (by rfl) rfl (by unfold execOp;simp [resolve,Deferred.ofValue,invoke,Act.eval,enters_ Try.func147 (by kernel_rfl) rfl]) ?_)
                        with_reducible refine (spec_l6Gain.calls _ _ ((rd_T53 l0 x21_1).f0) x12_3 t117 _ ?side1 ?side2 A34.out).mono ?_
                        (case side1=>repeat (first|exact (Kd.C_below HR107_0.out HB.out)|(with_reducible refine Kd.Qj ?_ _)|(with_reducible refine Kd.Qk ?_ _)|(with_reducible refine Kd.C_drew ?_)))
                        (case side2=>exact HC107_0.out)
                        rintro e w39 ⟨rfl,hb⟩
                        have HS1_:=(hb.cell (aI _ _ (hHeld.2))).trans (hHeld.2);refine ⟨_,rfl,?_⟩;have n0_:=aM (Kd.R_below (by (with_reducible repeat (first|apply Kd.R_alloc|apply Kd.R_drewN|apply Kd.R_drew));exact HO_5.out) hb);have n1_:=aM (Kd.N_below (by (with_reducible repeat (first|apply Kd.Ql|apply Kd.Qm|apply Kd.N_drew));exact HO_6.out) hb);have n2_:=aM (Kd.R_below (by (with_reducible repeat (first|apply Kd.R_alloc|apply Kd.R_drewN|apply Kd.R_drew));exact HO_9.out) hb);have n3_:=aM (blk_below (g:=gb108) (o:= .cells #[.slice A107_0 ((rd_T53 l0 x21_1).f0).length c107_0] 53 (0,0)) (by (with_reducible repeat (first|apply Qf|apply Qg|apply Qe));exact BK108.out) hb);have n4_:=aM (Qi (by repeat (first|(with_reducible first|exact HB.out|apply Qc|apply Qa|apply Qb|refine Qd ?_ GE108.out)|exact HB.out)) hb);clear HO_5;clear HO_6;clear HO_9;clear BK108;clear HB;have HO_5:=n0_;have HO_6:=n1_;have HO_9:=n2_;have BK108:=n3_;have HB:=n4_;clear n0_ n1_ n2_ n3_ n4_;(try clear hb);(try clear hb2);(try clear hk);(try clear hi);refine hK.out _ _ ⟨(blk_cell BK108.out 0).trans rfl,HS1_⟩ (fun hHeld=>?_);clear hK K;refine norm_ (a':=?_) ?_ ?_
                        rotate_left
                        ·show Act.put _ (some 57) _=_
                         simp only [Act.put,aA,aB,aC,i64_w,i32_w]
                         rfl
                        refine pure_ (i:=9) (N:=some 58) (v:=?_) (a':=?_) #[true,true,true,true,true,true,true,true,true,true,false] rfl rfl (any_of HT_.out (by kernel_rfl)) (fun _ _ _ h=>h) (Or.inl ⟨by rfl,?_⟩) ?_ ?_
                        rotate_left
                        ·intro w'
                         go_simp
                         with_reducible rfl
                        rotate_left
                        ·simp only [Act.put,aA,aB,aC,i64_w,i32_w]
                         rfl
                        refine pure_ (i:=10) (N:=some 13) (v:=?_) (a':=?_) #[true,true,true,true,true,true,true,true,true,true,true] rfl rfl (any_of HT_.out (by kernel_rfl)) (fun _ _ _ h=>h) (Or.inl ⟨by rfl,?_⟩) ?_ ?_
                        rotate_left
                        ·intro w'
                         go_simp
                         with_reducible rfl
                        rotate_left
                        ·simp only [Act.put,aA,aB,aC,i64_w,i32_w]
                         rfl
                        refine done_ (done_of HT_.out (by kernel_rfl)) ?_
                        try go_wp2
                        go_roundg kj25
                        case measure=>have:=HK1.out;have:=HK2.out;have:=HK3.out;have:=HJ25.out;omega
                        case rel=>exact ⟨(x11_3),(wrap64 (x12_3+1)),(by first|rfl|(simp;done)|(simp [*];done)),(by first|rfl|(simp;done)|(simp [*];done)),H',⟨by have:=HK1.out;have:=HK2.out;have:=HK3.out;have:=HJ25.out;omega⟩,⟨by (try simp only [hl9_2]);(with_reducible repeat (first|apply Kd.R_alloc|apply Kd.R_drewN|apply Kd.R_drew));exact HO_5.out⟩,⟨by (try simp only [hl9_2]);(with_reducible repeat (first|apply Kd.Ql|apply Kd.Qm|apply Kd.N_drew));exact HO_6.out⟩,⟨by (try simp only [hl9_2]);(with_reducible repeat (first|apply Kd.R_alloc|apply Kd.R_drewN|apply Kd.R_drew));exact HO_9.out⟩,⟨by (try simp only [hl9_2]);(with_reducible repeat (first|apply Qf|apply Qg|apply Qe));exact BK108.out⟩,⟨by repeat (first|(with_reducible first|exact HB.out|apply Qc|apply Qa|apply Qb|refine Qd ?_ GE108.out)|exact HB.out)⟩⟩
                      ·rw [if_neg c33] at H;exact absurd H (by simp)
                     ·rw [if_neg c32] at H;exact absurd H (by simp)
                    ·replace c30:=Bool.eq_false_iff.mpr c30;subst c30;have H1:(if 0≤x30_2 then (if x30_2<(x9_2.length:Int) then (spec_l6Rows.l1 kj25 a1 x5_1 x6_1 (x9_2.set (x30_2:Int).toNat x11_3) l0 (l0.length:Int) x21_1 (y109.length:Int) (wrap64 (x30_2+1)) ((rd_T53 l0 x21_1).f0)) else (none)) else (none))=some r:=by rw [if_neg (show ¬ (false=true) by decide)] at H;exact H
                     clear H;have H:=H1;clear H1;by_cases c40:0≤x30_2
                     ·rw [if_pos c40] at H;have c40b0:decide (0≤x30_2)=true:=decide_eq_true c40;clear c40;by_cases c41:x30_2<(x9_2.length:Int)
                      ·rw [if_pos c41] at H;have c41b0:decide (x30_2<(x9_2.length:Int))=true:=decide_eq_true c41;clear c41;obtain ⟨y118,hy118⟩:∃ y_:List Int,y_=(x9_2.set (x30_2:Int).toNat x11_3):=⟨_,rfl⟩;replace H:(spec_l6Rows.l1 kj25 a1 x5_1 x6_1 y118 l0 (l0.length:Int) x21_1 (y109.length:Int) (wrap64 (x30_2+1)) ((rd_T53 l0 x21_1).f0))=some r:=by first|(rw [hy118];with_reducible exact H)|(have H2_:=(Option.bind_some _ _).symm.trans H;rw [hy118];with_reducible exact H2_)|(have H2_:=(Option.bind_some _ _).symm.trans H;with_reducible exact H2_)|with_reducible exact H|(rw [hy118];exact H)|exact H
                       have Ny118:=aM hy118;clear hy118;have H':=aM H;clear H;have p42:0≤(x30_2:Int):=of_decide_eq_true (by first|(with_reducible assumption)|assumption);have q42:(x30_2:Int)<((x9_2.length:Int):Int):=of_decide_eq_true (by first|(with_reducible assumption)|assumption);obtain ⟨go42,co42,eo42,gb42,gl42,cl42,HG42⟩:=Kd.R_form HO_9.out (by omega)
                       (first|cases eo42|(injection eo42 with ea_ en_ ec_;(first|subst ea_|(injection ea_ with ea_;subst ea_));subst ec_;clear en_))
                       have GB42:=aM gb42;have GG42:=aM HG42;clear gb42 gl42 HG42;obtain ⟨hx42_0,hf42_0⟩:=Kd.R_celln 0 HO_9.out (x30_2:Int) p42 q42;replace p42:=eq_true p42;replace q42:=eq_true q42;have HP43:=Kd.R_putg HO_9.out (x30_2:Int) x11_3;go_wp2_with (first|((with_reducible refine gate_store (t:=3) (p:=66) rfl ?_);refine store_event (t:=3) (p:=66) (v:=?vo_w44) (w1:=(wc.setCell ⟨go42,(x30_2:Int).toNat,none⟩ (.int .i64 x11_3))) ?hg ?ho ?hn ?hr ?_;(case ho=>rfl);(case hg=>rfl);(case hn=>rfl);(case hr=>first|(go_simp;done)|(go_simp;rfl));intro w44 hw;have hg:wc.grownBy w44 (some go42):=(by rw [hw];exact HP43.2);have hp_:Kd.R (Kd.int .i64) 3 w44 w.heap.size (fun k_=>(w.heap.size≤k_)∧some k_≠(.slice (some ad115) x5_1.length co25:Value).ownBlock) (.slice (some ⟨go42,0,none⟩) x9_2.length co21) y118:=(by rw [hw,Ny118.out];exact HP43.1);clear HP43;have n0_:=aM (Kd.R_after (v:=(.slice (some ⟨go42,0,none⟩) x9_2.length co21)) (v1:=(.slice (some ⟨go42,0,none⟩) x9_2.length co21)) (ok:=(fun k_=>(w.heap.size≤k_))) (by (with_reducible repeat (first|apply Kd.R_alloc|apply Kd.R_drewN|apply Kd.R_drew));exact HO_5.out) hg (.inl rfl));have n1_:=aM (Kd.N_afterv (v:=(.slice (some ⟨go42,0,none⟩) x9_2.length co21)) (v1:=(.slice (some ⟨go42,0,none⟩) x9_2.length co21)) (ok:=(fun k_=>(w.heap.size≤k_)∧k_≠gb108)) (by (with_reducible repeat (first|apply Kd.Ql|apply Kd.Qm|apply Kd.N_drew));exact Kd.N_mono HO_6.out (fun _ hk=>⟨⟨hk.1,hk.2.2⟩,hk.2.1⟩)) hg (.inl rfl));have n2_:=aM (hp_);have n3_:=aM (blk_grown (g:=gb108) (o:= .cells #[.slice A107_0 ((rd_T53 l0 x21_1).f0).length c107_0] 53 (0,0)) (by (with_reducible repeat (first|apply Qf|apply Qg|apply Qe));exact BK108.out) hg (Kd.R_ne HO_9.out BK108.out (by decide)));have n4_:=aM ((by rw [hw];exact Qd (HB.out) GB42.out:Below w.heap.size w w44));clear HO_5;clear HO_6;clear HO_9;clear BK108;clear HB;have HO_5:=n0_;have HO_6:=n1_;have HO_9:=n2_;have BK108:=n3_;have HB:=n4_;clear n0_ n1_ n2_ n3_ n4_;clear hg hw hp_))
                       (try simp only [←hl9_2]);go_roundg kj25
                       case measure=>have:=HK1.out;have:=HK2.out;have:=HK3.out;have:=HJ25.out;omega
                       case rel=>exact ⟨(y118),(wrap64 (x30_2+1)),(by first|rfl|(simp;done)|(simp [*];done)),H',⟨by have:=HK1.out;have:=HK2.out;have:=HK3.out;have:=HJ25.out;omega⟩,⟨by (try simp only [hl9_2]);(with_reducible repeat (first|apply Kd.R_alloc|apply Kd.R_drewN|apply Kd.R_drew));exact HO_5.out⟩,⟨by (try simp only [hl9_2]);(with_reducible repeat (first|apply Kd.Ql|apply Kd.Qm|apply Kd.N_drew));exact Kd.N_mono HO_6.out (fun _ hk=>⟨hk.1.1,⟨hk.2,hk.1.2⟩⟩)⟩,⟨by (try simp only [hl9_2]);(with_reducible repeat (first|apply Kd.R_alloc|apply Kd.R_drewN|apply Kd.R_drew));exact HO_9.out⟩,⟨by (try simp only [hl9_2]);(with_reducible repeat (first|apply Qf|apply Qg|apply Qe));exact BK108.out⟩,⟨by repeat (first|(with_reducible first|exact HB.out|apply Qc|apply Qa|apply Qb|refine Qd ?_ GE108.out)|exact HB.out)⟩⟩
                      ·rw [if_neg c41] at H;exact absurd H (by simp)
                     ·rw [if_neg c40] at H;exact absurd H (by simp)
               ·rw [if_neg c24] at H;exact absurd H (by simp)
              ·rw [if_neg c23] at H;exact absurd H (by simp)
             ·rw [if_neg c22] at H;have c22b0:decide (x30_2<(y109.length:Int))=false:=decide_eq_false c22;have c22b0l:=c22b0;(try simp only [hl9_2] at c22b0l);clear c22;by_cases c45:x6_1.length<5864062014805
              ·rw [if_pos c45] at H;have LMc45:=aM c45;clear c45;obtain ⟨y112,hy112⟩:∃ y_:List (List Int),y_=(x6_1 ++ [x9_2]):=⟨_,rfl⟩;replace H:(spec_l6Rows.l0 k2 a1 x9_2 y112 l0 (l0.length:Int) (wrap64 (x21_1+1)))=some r:=by first|(rw [hy112];with_reducible exact H)|(have H2_:=(Option.bind_some _ _).symm.trans H;rw [hy112];with_reducible exact H2_)|(have H2_:=(Option.bind_some _ _).symm.trans H;with_reducible exact H2_)|with_reducible exact H|(rw [hy112];exact H)|exact H
               have Ny112:=aM hy112;clear hy112;have H':=aM H;clear H;go_wp2_with (first|((with_reducible refine gate_builtin (b:= .append) (xs:=#[.tmp 69,.tmp 71]) rfl ?_);at_builtin;refine Kd.N_append (Kd.slice 3 (Kd.int .i64)) (w0:=w) w.heap.size rfl (.tmp 69) (.tmp 71) 28 23 (.slice none 0 0) 24 rfl Try.underlying28 info23 rfl (by decide) (by omega) u6 x6_1 x9_2 [.slice Ao21 x9_2.length co21] (fun k_=>(w.heap.size≤k_)∧k_≠gb108) (fun k_=>((fun k_=>(w.heap.size≤k_)∧k_≠gb108)) k_∧some k_≠(u6:Value).ownBlock) rfl rfl ?aP (fun _ hk=>hk) ?aF ?aO ?aB ?aS ?aL ?_;(case aP=>exact (Kd.FK_slice_mk (Kd.R_reads' (Kd.R_mono (ok':=(fun k_=>((fun k_=>(w.heap.size≤k_)∧k_≠gb108)) k_∧some k_≠(u6:Value).ownBlock)) (Kd.R_types (Kd.R_apart' (HO_9.out) (Kd.N_typed HO_6.out) (by decide)) BK108.out (by decide)) (fun k_ hk=>⟨⟨hk.1.1.1,hk.2⟩,hk.1.2⟩))).2.1 (Kd.R_F (Kd.R_mono (ok':=(fun k_=>((fun k_=>(w.heap.size≤k_)∧k_≠gb108)) k_∧some k_≠(u6:Value).ownBlock)) (Kd.R_types (Kd.R_apart' (HO_9.out) (Kd.N_typed HO_6.out) (by decide)) BK108.out (by decide)) (fun k_ hk=>⟨⟨hk.1.1.1,hk.2⟩,hk.1.2⟩)))));(case aB=>exact (by repeat (first|(with_reducible first|exact HB.out|apply Qc|apply Qa|apply Qb|refine Qd ?_ GE108.out)|exact HB.out)));(case aF=>exact (fun k_ hk=>⟨(Nat.le_trans (Qh (by repeat (first|(with_reducible first|exact HB.out|apply Qc|apply Qa|apply Qb|refine Qd ?_ GE108.out)|exact HB.out))) hk),Kd.freshB (g:=gb108) (o:= .cells #[.slice A107_0 ((rd_T53 l0 x21_1).f0).length c107_0] 53 (0,0)) (by (with_reducible repeat (first|apply Qf|apply Qg|apply Qe));exact BK108.out) k_ hk⟩));(case aO=>exact (by (with_reducible repeat (first|apply Kd.Ql|apply Kd.Qm|apply Kd.N_drew));exact Kd.N_mono HO_6.out (fun _ hk=>⟨hk.1,hk.2.2⟩)));(case aS=>exact (Qh (by repeat (first|(with_reducible first|exact HB.out|apply Qc|apply Qa|apply Qb|refine Qd ?_ GE108.out)|exact HB.out))));(case aL=>have:=LMc45.out;omega);intro v113 w46 ho hb hg hat;rw [←Ny112.out] at ho;have n0_:=aM (Kd.R_over' (by (with_reducible repeat (first|apply Kd.R_alloc|apply Kd.R_drewN|apply Kd.R_drew));exact HO_5.out) (Kd.N_typed (by (with_reducible repeat (first|apply Kd.Ql|apply Kd.Qm|apply Kd.N_drew));exact HO_6.out)) (by decide) hg);have n1_:=aM (Kd.R_over' (by (with_reducible repeat (first|apply Kd.R_alloc|apply Kd.R_drewN|apply Kd.R_drew));exact HO_9.out) (Kd.N_typed (by (with_reducible repeat (first|apply Kd.Ql|apply Kd.Qm|apply Kd.N_drew));exact HO_6.out)) (by decide) hg);have n2_:=aM (blk_grown (g:=gb108) (o:= .cells #[.slice A107_0 ((rd_T53 l0 x21_1).f0).length c107_0] 53 (0,0)) (by (with_reducible repeat (first|apply Qf|apply Qg|apply Qe));exact BK108.out) hg (Kd.N_ne HO_6.out BK108.out (by decide)));have n3_:=aM (hb);have n4_:=aM (ho);clear HO_5;clear HO_9;clear BK108;clear HB;clear HO_6;have HO_5:=n0_;have HO_9:=n1_;have BK108:=n2_;have HB:=n3_;have HO114:=n4_;clear n0_ n1_ n2_ n3_ n4_;clear ho hb hg hat))
               (try simp only [←hl9_2]);go_roundg k2
               case measure=>have:=HK1.out;have:=HK2.out;omega
               case rel=>exact ⟨(x9_2),(y112),(wrap64 (x21_1+1)),(by first|rfl|(simp;done)|(simp [*];done)),H',⟨by have:=HK1.out;have:=HK2.out;omega⟩,⟨by (try simp only [hl9_2]);(with_reducible repeat (first|apply Kd.R_alloc|apply Kd.R_drewN|apply Kd.R_drew));exact Kd.R_mono HO_9.out (fun _ hk=>hk.1)⟩,⟨by (try simp only [hl9_2]);(with_reducible repeat (first|apply Kd.Ql|apply Kd.Qm|apply Kd.N_drew));exact Kd.N_mono HO114.out (fun _ hk=>hk.1)⟩,⟨by repeat (first|(with_reducible first|exact HB.out|apply Qc|apply Qa|apply Qb|refine Qd ?_ GE108.out)|exact HB.out)⟩⟩
              ·rw [if_neg c45] at H;exact absurd H (by simp)
          ·rw [if_neg c16] at H;exact absurd H (by simp)
         ·rw [if_neg c15] at H;exact absurd H (by simp)
        ·rw [if_neg c13] at H;exact absurd H (by simp)
       ·rw [if_neg c12] at H;exact absurd H (by simp)
      ·rw [if_neg c11] at H;have c11b0:decide (x21_1<(l0.length:Int))=false:=decide_eq_false c11;clear c11;obtain rfl:=Option.some.inj H;go_wp2
       go_ret
       exact ⟨_,by first|rfl|(simp [errW_none,errW_some] <;> rfl)|(simp only [←hji3];first|rfl|(simp [errW_none,errW_some] <;> rfl))|(simp [*,errW_none,errW_some] <;> rfl),by (with_reducible repeat (first|apply Kd.Ql|apply Kd.Qm|apply Kd.N_drew));exact HO_6.out,by repeat (first|(with_reducible first|exact HB.out|apply Qc|apply Qa|apply Qb)|exact HB.out)⟩
   ·rw [if_neg c5] at H;exact absurd H (by simp)
  ·rw [if_neg c4] at H;exact absurd H (by simp)

def spec_BestTable.f (k:Nat) (l0:List (S53)) (a1:Int):Option (List Int×Bool):=(spec_GoodOffers.f k l0).bind fun t101=>(if t101=true then ((spec_l6Places.f a1).bind fun t102=>(if t102=true then ((spec_l6Rows.f k l0 a1).bind fun t103=>(if 0≤(l0.length:Int) then (if (l0.length:Int)<(t103.length:Int) then (some (rd_L2 t103 (l0.length:Int),true)) else (none)) else (none))) else (some (([]:List Int),false)))) else (some (([]:List Int),false)))
set_option maxHeartbeats 8000000 in
set_option maxRecDepth 100000 in
theorem spec_BestTable.calls (k:Nat) (A0:Option Addr) (c0:Nat) (l0:List (S53)) (a1:Int) (r1:List Int) (r2:Bool) (w:World) (hr0:Kd.C k53 w A0 l0.length l0) (hc0:l0.length≤c0) (h:spec_BestTable.f k l0 a1=some (r1,r2)) :
    Calls Try.prog 39 #[.slice A0 l0.length c0,.int .i64 a1] w fun e w'=>∃ v0_:Value,e= .returned (.tuple #[v0_,.bool r2])∧Kd.V (Kd.int .i64) 3 w' w.heap.size (fun k_=>(w.heap.size≤k_)) v0_ r1∧Below w.heap.size w w':=by
  have HR0:=aM hr0;have HC0:=aM hc0;clear hr0 hc0;have HB:=aM (Below.refl w.heap.size w);have H:((spec_GoodOffers.f k l0).bind fun t101=>(if t101=true then ((spec_l6Places.f a1).bind fun t102=>(if t102=true then ((spec_l6Rows.f k l0 a1).bind fun t103=>(if 0≤(l0.length:Int) then (if (l0.length:Int)<(t103.length:Int) then (some (rd_L2 t103 (l0.length:Int),true)) else (none)) else (none))) else (some (([]:List Int),false)))) else (some (([]:List Int),false))))=some (r1,r2):=h;clear h;replace H:=Option.bind_eq_some_iff.mp H;obtain ⟨t101,A30,H⟩:=H;replace H:(if t101=true then ((spec_l6Places.f a1).bind fun t102=>(if t102=true then ((spec_l6Rows.f k l0 a1).bind fun t103=>(if 0≤(l0.length:Int) then (if (l0.length:Int)<(t103.length:Int) then (some (rd_L2 t103 (l0.length:Int),true)) else (none)) else (none))) else (some (([]:List Int),false)))) else (some (([]:List Int),false)))=some (r1,r2):=H;have A3:=aM A30;clear A30;by_cases c4:t101=true
  ·subst c4;have H1:((spec_l6Places.f a1).bind fun t102=>(if t102=true then ((spec_l6Rows.f k l0 a1).bind fun t103=>(if 0≤(l0.length:Int) then (if (l0.length:Int)<(t103.length:Int) then (some (rd_L2 t103 (l0.length:Int),true)) else (none)) else (none))) else (some (([]:List Int),false))))=some (r1,r2):=by rw [if_pos rfl] at H;exact H
   clear H;have H:=H1;clear H1;replace H:=Option.bind_eq_some_iff.mp H;obtain ⟨t102,A50,H⟩:=H;replace H:(if t102=true then ((spec_l6Rows.f k l0 a1).bind fun t103=>(if 0≤(l0.length:Int) then (if (l0.length:Int)<(t103.length:Int) then (some (rd_L2 t103 (l0.length:Int),true)) else (none)) else (none))) else (some (([]:List Int),false)))=some (r1,r2):=H;have A5:=aM A50;clear A50;by_cases c6:t102=true
   ·subst c6;have H1:((spec_l6Rows.f k l0 a1).bind fun t103=>(if 0≤(l0.length:Int) then (if (l0.length:Int)<(t103.length:Int) then (some (rd_L2 t103 (l0.length:Int),true)) else (none)) else (none)))=some (r1,r2):=by rw [if_pos rfl] at H;exact H
    clear H;have H:=H1;clear H1;replace H:=Option.bind_eq_some_iff.mp H;obtain ⟨t103,A70,H⟩:=H;replace H:(if 0≤(l0.length:Int) then (if (l0.length:Int)<(t103.length:Int) then (some (rd_L2 t103 (l0.length:Int),true)) else (none)) else (none))=some (r1,r2):=H;have A7:=aM A70;clear A70;by_cases c8:0≤(l0.length:Int)
    ·rw [if_pos c8] at H;have c8b0:decide (0≤(l0.length:Int))=true:=decide_eq_true c8;have c8b1:decide (0≤l0.length)=true:=decide_eq_true (by omega);clear c8;by_cases c9:(l0.length:Int)<(t103.length:Int)
     ·rw [if_pos c9] at H;have c9b0:decide ((l0.length:Int)<(t103.length:Int))=true:=decide_eq_true c9;have c9b1:decide (l0.length<t103.length)=true:=decide_eq_true (Int.ofNat_lt.mp c9);clear c9;simp only [Option.some.injEq,Prod.mk.injEq] at H;obtain ⟨rfl,rfl⟩:=H;go_enter Try.func39,Try.ntmps39;go_wp2_with (first|((with_reducible refine Qn (f:=49) rfl ?_);refine goesL_ (some 7) rfl rfl Try.func49 (by kernel_rfl) rfl #[.slice A0 l0.length c0] rfl (by (try simp only [aD,aE,aF]);first|done|rfl|(simp only [aG,aH];rfl)) ?_;(with_reducible refine (spec_GoodOffers.calls k _ _ l0 true _ ?side1 ?side2 A3.out).mono ?_);(case side1=>repeat (first|exact HR0.out|(with_reducible refine Kd.Qj ?_ _)|(with_reducible refine Kd.Qk ?_ _)|(with_reducible refine Kd.C_drew ?_)));(case side2=>exact HC0.out);rintro e w10 ⟨rfl,hb⟩;refine ⟨_,rfl,?_⟩;have n0_:=aM (Qi (by repeat (first|(with_reducible first|exact HB.out|apply Qc|apply Qa|apply Qb)|exact HB.out)) hb);clear HB;have HB:=n0_;clear n0_;(try clear hb);(try clear hb2);(try clear hk);(try clear hi))|(go_at_call 142;(with_reducible refine (spec_l6Places.calls a1 true _ A5.out).mono ?_);rintro e w' ⟨rfl,⟨nd,rfl⟩⟩)|((with_reducible refine Qn (f:=143) rfl ?_);refine goesL_ (some 16) rfl rfl Try.func143 (by kernel_rfl) rfl #[.slice A0 l0.length c0,.int .i64 a1] rfl (by (try simp only [aD,aE,aF]);first|done|rfl|(simp only [aG,aH];rfl)) ?_;(with_reducible refine (spec_l6Rows.calls k _ _ l0 a1 t103 _ ?side1 ?side2 A7.out).mono ?_);(case side1=>repeat (first|exact (Kd.C_below HR0.out (by repeat (first|(with_reducible first|exact HB.out|apply Qc|apply Qa|apply Qb)|exact HB.out)))|(with_reducible refine Kd.Qj ?_ _)|(with_reducible refine Kd.Qk ?_ _)|(with_reducible refine Kd.C_drew ?_)));(case side2=>exact HC0.out);rintro e w11 ⟨v104,rfl,ho0,hb⟩;refine ⟨_,rfl,?_⟩;have n0_:=aM (Kd.N_lower (Kd.N_mono (ok':=fun k_=>(w.heap.size≤k_)) ho0 (fun k_ hk_=>(Nat.le_trans (Qh (by repeat (first|(with_reducible first|exact HB.out|apply Qc|apply Qa|apply Qb)|exact HB.out))) hk_))) (Qh (by repeat (first|(with_reducible first|exact HB.out|apply Qc|apply Qa|apply Qb)|exact HB.out))));have n1_:=aM (Qi (by repeat (first|(with_reducible first|exact HB.out|apply Qc|apply Qa|apply Qb)|exact HB.out)) hb);clear HB;have HO105:=n0_;have HB:=n1_;clear n0_ n1_;(try clear hb);(try clear hb2);(try clear hk);(try clear hi);(try clear ho0);obtain ⟨Ao12,co12,eo12⟩:=Kd.N_slice HO105.out;subst eo12;have p106:0≤((l0.length:Int):Int):=of_decide_eq_true (by first|(with_reducible assumption)|assumption);have q106:(l0.length:Int)<(t103.length:Int):=of_decide_eq_true (by first|(with_reducible assumption)|assumption);obtain ⟨ad106,A106_0,c106_0,e106,hx106_0,hl106_0,hi106_0⟩:=at_L2 (Kd.Qs HO105.out).2.2 (l0.length:Int) p106 q106;cases e106;obtain ⟨ce106,hce106,hMe106,hcc106⟩:=Kd.N_get HO105.out [] (l0.length:Int) p106 (by first|exact q106|exact of_decide_eq_true (by first|(with_reducible assumption)|assumption)|(have e_:=(Kd.Qs HO105.out).1;omega));obtain ⟨ua106_0,uc106_0,rfl,ul106_0,ge106_0⟩:=Kd.FK_slice_open hMe106;have hv106_0:=hcc106 0 _ rfl;rw [Nat.add_zero,show ((Kd.slice 3 (Kd.int .i64))).sz=1 from rfl,Nat.mul_one] at hv106_0;replace hv106_0:=Option.some.inj (hv106_0.symm.trans hx106_0);injection hv106_0 with hva_ hvn_ hvc_;rw [hva_] at ge106_0;rw [hvc_] at ul106_0;have HL106_0:=aM (show Kd.V (Kd.int .i64) 3 _ w.heap.size _ _ (rd_L2 t103 (l0.length:Int)) from Kd.V_mk ul106_0 ge106_0);clear hva_ hvn_ hvc_ ge106_0 ul106_0;clear hcc106 hce106;have HR106_0:=aM hi106_0;have HC106_0:=aM hl106_0;clear hi106_0 hl106_0;(try simp only [Go.IntWalk.toNatUp] at hx106_0);replace p106:=eq_true p106;replace q106:=eq_true q106))
      go_ret2
      exact ⟨_,by first|rfl|(simp [errW_none,errW_some] <;> rfl)|(simp [*,errW_none,errW_some] <;> rfl),by (with_reducible repeat (first|apply Kd.V_alloc|apply Kd.V_drewN|apply Kd.V_drew));exact Kd.V_mono HL106_0.out (fun _ hk=>hk.1),by repeat (first|(with_reducible first|exact HB.out|apply Qc|apply Qa|apply Qb)|exact HB.out)⟩
     ·rw [if_neg c9] at H;exact absurd H (by simp)
    ·rw [if_neg c8] at H;exact absurd H (by simp)
   ·replace c6:=Bool.eq_false_iff.mpr c6;subst c6;have H1:(some (([]:List Int),false))=some (r1,r2):=by rw [if_neg (show ¬ (false=true) by decide)] at H;exact H
    clear H;have H:=H1;clear H1;simp only [Option.some.injEq,Prod.mk.injEq] at H;obtain ⟨rfl,rfl⟩:=H;go_enter Try.func39,Try.ntmps39;go_wp2_with (first|((with_reducible refine Qn (f:=49) rfl ?_);refine goesL_ (some 7) rfl rfl Try.func49 (by kernel_rfl) rfl #[.slice A0 l0.length c0] rfl (by (try simp only [aD,aE,aF]);first|done|rfl|(simp only [aG,aH];rfl)) ?_;(with_reducible refine (spec_GoodOffers.calls k _ _ l0 true _ ?side1 ?side2 A3.out).mono ?_);(case side1=>repeat (first|exact HR0.out|(with_reducible refine Kd.Qj ?_ _)|(with_reducible refine Kd.Qk ?_ _)|(with_reducible refine Kd.C_drew ?_)));(case side2=>exact HC0.out);rintro e w13 ⟨rfl,hb⟩;refine ⟨_,rfl,?_⟩;have n0_:=aM (Qi (by repeat (first|(with_reducible first|exact HB.out|apply Qc|apply Qa|apply Qb)|exact HB.out)) hb);clear HB;have HB:=n0_;clear n0_;(try clear hb);(try clear hb2);(try clear hk);(try clear hi))|(go_at_call 142;(with_reducible refine (spec_l6Places.calls a1 false _ A5.out).mono ?_);rintro e w' ⟨rfl,⟨nd,rfl⟩⟩))
    go_ret2
    exact ⟨_,by first|rfl|(simp [errW_none,errW_some] <;> rfl)|(simp [*,errW_none,errW_some] <;> rfl),Kd.R_V (base:=0) (by first|exact Kd.R_nil _ _ _ _ _|exact Kd.N_nil _ _ _ _ _|exact Kd.V_nil _ _ _ _ _|exact Kd.Q_nil _ _ _ _ _|exact Kd.S_nil _ _ _ _ _),by repeat (first|(with_reducible first|exact HB.out|apply Qc|apply Qa|apply Qb)|exact HB.out)⟩
  ·replace c4:=Bool.eq_false_iff.mpr c4;subst c4;have H1:(some (([]:List Int),false))=some (r1,r2):=by rw [if_neg (show ¬ (false=true) by decide)] at H;exact H
   clear H;have H:=H1;clear H1;simp only [Option.some.injEq,Prod.mk.injEq] at H;obtain ⟨rfl,rfl⟩:=H;go_enter Try.func39,Try.ntmps39;go_wp2_with (first|((with_reducible refine Qn (f:=49) rfl ?_);refine goesL_ (some 7) rfl rfl Try.func49 (by kernel_rfl) rfl #[.slice A0 l0.length c0] rfl (by (try simp only [aD,aE,aF]);first|done|rfl|(simp only [aG,aH];rfl)) ?_;(with_reducible refine (spec_GoodOffers.calls k _ _ l0 false _ ?side1 ?side2 A3.out).mono ?_);(case side1=>repeat (first|exact HR0.out|(with_reducible refine Kd.Qj ?_ _)|(with_reducible refine Kd.Qk ?_ _)|(with_reducible refine Kd.C_drew ?_)));(case side2=>exact HC0.out);rintro e w14 ⟨rfl,hb⟩;refine ⟨_,rfl,?_⟩;have n0_:=aM (Qi (by repeat (first|(with_reducible first|exact HB.out|apply Qc|apply Qa|apply Qb)|exact HB.out)) hb);clear HB;have HB:=n0_;clear n0_;(try clear hb);(try clear hb2);(try clear hk);(try clear hi)))
   go_ret2
   exact ⟨_,by first|rfl|(simp [errW_none,errW_some] <;> rfl)|(simp [*,errW_none,errW_some] <;> rfl),Kd.R_V (base:=0) (by first|exact Kd.R_nil _ _ _ _ _|exact Kd.N_nil _ _ _ _ _|exact Kd.V_nil _ _ _ _ _|exact Kd.Q_nil _ _ _ _ _|exact Kd.S_nil _ _ _ _ _),by repeat (first|(with_reducible first|exact HB.out|apply Qc|apply Qa|apply Qb)|exact HB.out)⟩

mutual
def impl_BestChoice.l0:Nat→List (S53)→Int→List (List Int)→List Int→Int→Int→Option (List Int×Int×Bool)
  |0,_,_,_,_,_,_=>none
  |k+1,x0,x1,x7,x8,x9,x10=>if x10 ≥ 0 then (impl_BestChoice.l1 k x0 x1 x7 x8 x9 x10 0) else (if 0≤(x0.length:Int) then (if (x0.length:Int)<(x7.length:Int) then (if 0≤x1 then (if x1<((rd_L2 x7 (x0.length:Int)).length:Int) then (some (x8,rd (rd_L2 x7 (x0.length:Int)) x1,true)) else (none)) else (none)) else (none)) else (none))
def impl_BestChoice.l1:Nat→List (S53)→Int→List (List Int)→List Int→Int→Int→Int→Option (List Int×Int×Bool)
  |0,_,_,_,_,_,_,_=>none
  |k+1,x0,x1,x7,x8,x9,x10,x11=>if 0≤x10 then (if x10<(x7.length:Int) then (if 0≤(wrap64 (x9 - x11)) then (if (wrap64 (x9 - x11))<((rd_L2 x7 x10).length:Int) then (if x10<(x0.length:Int) then ((impl_Offer_gain.f ((rd_T53 x0 x10).f0) x11).bind fun t113=>(if 0≤(wrap64 (x10+1)) then (if (wrap64 (x10+1))<(x7.length:Int) then (if 0≤x9 then (if x9<((rd_L2 x7 (wrap64 (x10+1))).length:Int) then (if (wrap64 ((rd (rd_L2 x7 x10) (wrap64 (x9 - x11)))+t113))=(rd (rd_L2 x7 (wrap64 (x10+1))) x9) then (if x10<(x8.length:Int) then (impl_BestChoice.l0 k x0 x1 x7 (x8.set (x10:Int).toNat x11) (wrap64 (x9 - x11)) (wrap64 (x10 - 1))) else (none)) else (impl_BestChoice.l1 k x0 x1 x7 x8 x9 x10 (wrap64 (x11+1)))) else (none)) else (none)) else (none)) else (none))) else (none)) else (none)) else (none)) else (none)) else (none)
end
def impl_BestChoice.f (k:Nat) (l0:List (S53)) (a1:Int):Option (List Int×Int×Bool):=(impl_isOffered.f k l0 a1).bind fun t101=>(if t101=true then ((impl_tables.f k l0 a1).bind fun t102=>(if 0≤(l0.length:Int) then (if ((l0.length:Int):Int).toNat≤35184372088832 then (impl_BestChoice.l0 k l0 a1 t102 (List.replicate ((l0.length:Int):Int).toNat 0) a1 (wrap64 ((l0.length:Int) - 1))) else (none)) else (none))) else (some (([]:List Int),0,false)))
def impl_BestChoice.T3:Bool×List (List Nat×List Nat):=(true,[([],[]),([],[]),([0,1],[0,1]),([],[]),([3],[3]),([4,4],[4]),([],[]),([2,2,0,1,2],[2]),([5,7,0,1,2,3,4,5,7],[5]),([6,8,0,1,2,3,4,5,6,7,8],[6])])
def impl_BestChoice.B3:List Nat:=[0,0,3,0,8,24,0,7,191,511]
theorem impl_BestChoice.tab3:rtab .any (opsOf Try.f40 3)=impl_BestChoice.T3:=by kernel_rfl
theorem impl_BestChoice.bits3:waitsOk impl_BestChoice.T3.2 impl_BestChoice.B3=true:=by kernel_rfl
def impl_BestChoice.T8:Bool×List (List Nat×List Nat):=(true,[([],[]),([],[]),([0,1],[0,1]),([2],[2]),([],[]),([],[]),([4,5],[4,5]),([3,6],[3,6]),([7],[7]),([],[]),([],[]),([9,10],[9,10]),([11],[11]),([],[]),([12,13],[12,13]),([8,14],[8,14]),([],[]),([],[]),([17],[17]),([16,18],[16,18]),([19],[19]),([],[]),([20,21],[20,21]),([22],[22]),([15,23],[15,23])])
def impl_BestChoice.B8:List Nat:=[0,0,3,7,0,0,48,127,255,0,0,1536,3584,0,15872,32767,0,0,131072,458752,983040,0,4128768,8323072,16777215]
theorem impl_BestChoice.tab8:rtab .any (opsOf Try.f40 8)=impl_BestChoice.T8:=by kernel_rfl
theorem impl_BestChoice.bits8:waitsOk impl_BestChoice.T8.2 impl_BestChoice.B8=true:=by kernel_rfl
def impl_BestChoice.T12:Bool×List (List Nat×List Nat):=(true,[([],[]),([],[]),([],[]),([2],[2]),([1,3],[1,3]),([4],[4]),([],[]),([5,6],[5,6]),([7],[7]),([0,0],[0]),([8,9,0,1,2,3,4,5,6,7,8,9],[8]),([10,0,1,2,3,4,5,6,7,8,9,10],[])])
def impl_BestChoice.B12:List Nat:=[0,0,0,4,14,30,0,126,254,1,1023,2047]
theorem impl_BestChoice.tab12:rtab .any (opsOf Try.f40 12)=impl_BestChoice.T12:=by kernel_rfl
theorem impl_BestChoice.bits12:waitsOk impl_BestChoice.T12.2 impl_BestChoice.B12=true:=by kernel_rfl
set_option maxHeartbeats 8000000 in
set_option maxRecDepth 100000 in
theorem impl_BestChoice.calls (k:Nat) (A0:Option Addr) (c0:Nat) (l0:List (S53)) (a1:Int) (r1:List Int) (r2:Int) (r3:Bool) (w:World) (hr0:Kd.C k53 w A0 l0.length l0) (hc0:l0.length≤c0) (h:impl_BestChoice.f k l0 a1=some (r1,r2,r3)) :
    Calls Try.prog 40 #[.slice A0 l0.length c0,.int .i64 a1] w fun e w'=>∃ v0_:Value,e= .returned (.tuple #[v0_,.int .i64 r2,.bool r3])∧Kd.R (Kd.int .i64) 3 w' w.heap.size (fun _=>True) v0_ r1∧Below w.heap.size w w':=by
  have hu53:=Try.underlying53;have HR0:=aM hr0;have HC0:=aM hc0;clear hr0 hc0;have HB:=aM (Below.refl w.heap.size w);have H:((impl_isOffered.f k l0 a1).bind fun t101=>(if t101=true then ((impl_tables.f k l0 a1).bind fun t102=>(if 0≤(l0.length:Int) then (if ((l0.length:Int):Int).toNat≤35184372088832 then (impl_BestChoice.l0 k l0 a1 t102 (List.replicate ((l0.length:Int):Int).toNat 0) a1 (wrap64 ((l0.length:Int) - 1))) else (none)) else (none))) else (some (([]:List Int),0,false))))=some (r1,r2,r3):=h;clear h;replace H:=Option.bind_eq_some_iff.mp H;obtain ⟨t101,A30,H⟩:=H;replace H:(if t101=true then ((impl_tables.f k l0 a1).bind fun t102=>(if 0≤(l0.length:Int) then (if ((l0.length:Int):Int).toNat≤35184372088832 then (impl_BestChoice.l0 k l0 a1 t102 (List.replicate ((l0.length:Int):Int).toNat 0) a1 (wrap64 ((l0.length:Int) - 1))) else (none)) else (none))) else (some (([]:List Int),0,false)))=some (r1,r2,r3):=H;have A3:=aM A30;clear A30;by_cases c4:t101=true
  ·subst c4;have H1:((impl_tables.f k l0 a1).bind fun t102=>(if 0≤(l0.length:Int) then (if ((l0.length:Int):Int).toNat≤35184372088832 then (impl_BestChoice.l0 k l0 a1 t102 (List.replicate ((l0.length:Int):Int).toNat 0) a1 (wrap64 ((l0.length:Int) - 1))) else (none)) else (none)))=some (r1,r2,r3):=by rw [if_pos rfl] at H;exact H
   clear H;have H:=H1;clear H1;replace H:=Option.bind_eq_some_iff.mp H;obtain ⟨t102,A50,H⟩:=H;replace H:(if 0≤(l0.length:Int) then (if ((l0.length:Int):Int).toNat≤35184372088832 then (impl_BestChoice.l0 k l0 a1 t102 (List.replicate ((l0.length:Int):Int).toNat 0) a1 (wrap64 ((l0.length:Int) - 1))) else (none)) else (none))=some (r1,r2,r3):=H;have A5:=aM A50;clear A50;by_cases c6:0≤(l0.length:Int)
   ·rw [if_pos c6] at H;have c6b0:=eq_true c6;have c6b1:decide (0≤(l0.length:Int))=true:=decide_eq_true c6;clear c6;by_cases c7:((l0.length:Int):Int).toNat≤35184372088832
    ·rw [if_pos c7] at H;have c7b0:=eq_true c7;have c7b1:decide (((l0.length:Int):Int).toNat≤35184372088832)=true:=decide_eq_true c7;clear c7;obtain ⟨y105,hy105⟩:∃ y_:List Int,y_=(List.replicate ((l0.length:Int):Int).toNat 0):=⟨_,rfl⟩;replace H:(impl_BestChoice.l0 k l0 a1 t102 y105 a1 (wrap64 ((l0.length:Int) - 1)))=some (r1,r2,r3):=by first|(rw [hy105];with_reducible exact H)|(have H2_:=(Option.bind_some _ _).symm.trans H;rw [hy105];with_reducible exact H2_)|(have H2_:=(Option.bind_some _ _).symm.trans H;with_reducible exact H2_)|with_reducible exact H|(rw [hy105];exact H)|exact H
     have Ny105:=aM hy105;clear hy105;have H':=aM H;clear H;go_enter Try.func40,Try.ntmps40
     try go_wp2_with (first|((with_reducible refine Qn (f:=140) rfl ?_);refine goesL_ (some 14) rfl rfl Try.func140 (by kernel_rfl) rfl #[.slice A0 l0.length c0,.int .i64 a1] rfl (by (try simp only [aD,aE,aF]);first|done|rfl|(simp only [aG,aH];rfl)) ?_;(with_reducible refine (impl_isOffered.calls k _ _ l0 a1 true _ ?side1 ?side2 A3.out).mono ?_);(case side1=>repeat (first|exact HR0.out|(with_reducible refine Kd.Qj ?_ _)|(with_reducible refine Kd.Qk ?_ _)|(with_reducible refine Kd.C_drew ?_)));(case side2=>exact HC0.out);rintro e w8 ⟨rfl,hb⟩;refine ⟨_,rfl,?_⟩;have n0_:=aM (Qi (by repeat (first|(with_reducible first|exact HB.out|apply Qc|apply Qa|apply Qb)|exact HB.out)) hb);clear HB;have HB:=n0_;clear n0_;(try clear hb);(try clear hb2);(try clear hk);(try clear hi)))
     have n0_:=aM (Qb HB.out);clear HB;have HB:=n0_;clear n0_;refine start_ (n:=10) (S:=fun w'=>True) (ds:=[]) #[false,false,false,false,false,false,false,false,false,false] (by kernel_rfl) rfl rfl trivial (fun hHeld=>?_);refine with_tabW impl_BestChoice.tab3 impl_BestChoice.bits3 (fun HT_ HW_=>?_)
     generalize w8.drew=w9 at HB hHeld ⊢
     refine pure_ (i:=0) (N:=some 16) (v:=?_) (a':=?_) #[true,false,false,false,false,false,false,false,false,false] rfl rfl (any_of HT_.out (by kernel_rfl)) (fun _ _ _ h=>h) (Or.inl ⟨by rfl,?_⟩) ?_ ?_
     rotate_left
     ·intro w'
      go_simp
      with_reducible rfl
     rotate_left
     ·simp only [Act.put,aA,aB,aC,i64_w,i32_w]
      rfl
     refine pure_ (i:=1) (N:=some 17) (v:=?_) (a':=?_) #[true,true,false,false,false,false,false,false,false,false] rfl rfl (any_of HT_.out (by kernel_rfl)) (fun _ _ _ h=>h) (Or.inl ⟨by rfl,?_⟩) ?_ ?_
     rotate_left
     ·intro w'
      go_simp
      with_reducible rfl
     rotate_left
     ·simp only [Act.put,aA,aB,aC,i64_w,i32_w]
      rfl
     refine pure_ (i:=3) (N:=some 19) (v:=?_) (a':=?_) #[true,true,false,true,false,false,false,false,false,false] rfl rfl (any_of HT_.out (by kernel_rfl)) (fun _ _ _ h=>h) (Or.inl ⟨by rfl,?_⟩) ?_ ?_
     rotate_left
     ·intro w'
      go_simp
      with_reducible rfl
     rotate_left
     ·simp only [Act.put,aA,aB,aC,i64_w,i32_w]
      rfl
     refine pure_ (i:=4) (N:=some 20) (v:=?_) (a':=?_) #[true,true,false,true,true,false,false,false,false,false] rfl rfl (any_of HT_.out (by kernel_rfl)) (fun _ _ _ h=>h) (Or.inl ⟨by rfl,?_⟩) ?_ ?_
     rotate_left
     ·intro w'
      go_simp
      with_reducible rfl
     rotate_left
     ·simp only [Act.put,aA,aB,aC,i64_w,i32_w]
      rfl
     refine pure_ (i:=6) (N:=some 22) (v:=?_) (a':=?_) #[true,true,false,true,true,false,true,false,false,false] rfl rfl (any_of HT_.out (by kernel_rfl)) (fun _ _ _ h=>h) (Or.inl ⟨by rfl,?_⟩) ?_ ?_
     rotate_left
     ·intro w'
      go_simp
      with_reducible rfl
     rotate_left
     ·simp only [Act.put,aA,aB,aC,i64_w,i32_w]
      rfl
     refine join_ (σ:=Value×Value) 2 #[true,true,true,true,true,true,true,true,false,false] (fun s_=>[(18,s_.1),(21,s_.2),(7,s_.1)]) (fun s_ w'=>(Kd.N (Kd.slice 3 (Kd.int .i64)) 23 w' w.heap.size (fun k_=>some k_≠(s_.2:Value).ownBlock) s_.1 t102)∧(Kd.R (Kd.int .i64) 3 w' w.heap.size (fun _=>True) s_.2 y105)∧(Below w.heap.size w w')) ?_ ?_
     rotate_left
     ·intro hCont;refine two_ (i:=2) (j:=5) (Ni:=some 18) (Nj:=some 21) #[true,true,true,true,true,false,true,false,false,false] #[true,true,false,true,true,true,true,false,false,false] rfl rfl rfl rfl (two_of HT_.out (by kernel_rfl)) (by decide) (by decide) (fun K hK=>?_) (fun K hK=>?_)
      ·skip
       first|(refine goes_ Try.func141 (by kernel_rfl) rfl #[.slice A0 l0.length c0,.int .i64 a1] (by rfl) rfl rfl (by (try simp only [aD,aE,aF]);first|done|rfl|(simp only [aG,aH];rfl)) ?_)|(refine call_ 141 #[.slice A0 l0.length c0,.int .i64 a1] (by rfl) rfl (by unfold execOp;simp [resolve,Deferred.ofValue,invoke,Act.eval,enters_ Try.func141 (by kernel_rfl) rfl]) ?_)
       with_reducible refine (impl_tables.calls k _ _ l0 a1 t102 _ ?side1 ?side2 A5.out).mono ?_
       (case side1=>repeat (first|exact (Kd.C_below HR0.out HB.out)|(with_reducible refine Kd.Qj ?_ _)|(with_reducible refine Kd.Qk ?_ _)|(with_reducible refine Kd.C_drew ?_)))
       (case side2=>exact HC0.out)
       rintro e w10 ⟨v103,rfl,ho0,hb⟩
       refine ⟨_,rfl,?_⟩;have n0_:=aM (Kd.N_lower (Kd.N_mono (ok':=fun k_=>True) ho0 (fun k_ hk_=>trivial)) (Qh (by repeat (first|(with_reducible first|exact HB.out|apply Qc|apply Qa|apply Qb)|exact HB.out))));have n1_:=aM (Qi (by repeat (first|(with_reducible first|exact HB.out|apply Qc|apply Qa|apply Qb)|exact HB.out)) hb);clear HB;have HO104:=n0_;have HB:=n1_;clear n0_ n1_;(try clear hb);(try clear hb2);(try clear hk);(try clear hi);(try clear ho0);refine hK.out _ _ trivial (fun hHeld=>?_);clear hK K;refine norm_ (a':=?_) ?_ ?_
       rotate_left
       ·show Act.put _ (some 18) _=_
        simp only [Act.put,aA,aB,aC,i64_w,i32_w]
        rfl
       refine pure_ (i:=7) (N:=some 7) (v:=?_) (a':=?_) #[true,true,true,true,true,false,true,true,false,false] rfl rfl (any_of HT_.out (by kernel_rfl)) (fun _ _ _ h=>h) (Or.inl ⟨by rfl,?_⟩) ?_ ?_
       rotate_left
       ·intro w'
        go_simp
        with_reducible rfl
       rotate_left
       ·simp only [Act.put,aA,aB,aC,i64_w,i32_w]
        rfl
       refine one_ (i:=5) (N:=some 21) #[true,true,true,true,true,true,true,true,false,false] rfl rfl (one_of HT_.out (by kernel_rfl)) (by decide) (fun K hK=>?_);refine Kd.R_make_step (Kd.int .i64) _ 3 (by rfl) (N:=21) rfl 23 _ _ rfl (l0.length:Int) rfl rfl Try.underlying23 (.int .i64 0) 8 info3 rfl (by decide) (by omega) 0 (ok:=fun _=>True) (okp:=fun _=>True) rfl (fun _ hk=>hk) trivial (of_decide_eq_true (by first|(with_reducible assumption)|assumption)) (Nat.le_trans (Nat.mul_le_mul_right _ (of_decide_eq_true (by first|(with_reducible assumption)|assumption):(l0.length:Int).toNat≤35184372088832)) (by omega)) (Below.refl _ _) (Nat.le_refl _) ?_;intro v106 w11 ho12 hb hg_ hnew_;clear hg_ hnew_
       (first|rw [←Ny105.out] at ho12|(simp only [Int.reduceToNat] at ho12;rw [←Ny105.out] at ho12))
       have n0_:=aM (Kd.N_elder' (by (with_reducible repeat (first|apply Kd.Ql|apply Kd.Qm|apply Kd.N_drew));exact HO104.out) (Kd.R_base ho12) hb);have n1_:=aM (Kd.R_lower ho12 (Qh (by repeat (first|(with_reducible first|exact HB.out|apply Qc|apply Qa|apply Qb)|exact HB.out))));have n2_:=aM (Qi (by repeat (first|(with_reducible first|exact HB.out|apply Qc|apply Qa|apply Qb)|exact HB.out)) hb);clear HO104;clear HB;have HO104:=n0_;have HO107:=n1_;have HB:=n2_;clear n0_ n1_ n2_;clear hb ho12;refine hK.out _ _ trivial (fun hHeld=>?_);clear hK K;refine norm_ (a':=?_) ?_ ?_
       rotate_left
       ·show Act.put _ (some 21) _=_
        simp only [Act.put,aA,aB,aC,i64_w,i32_w]
        rfl
       exact norm_ (by simp only [putAll,Act.put,aA,aB,aC]) (hCont (v103,v106) _ ⟨(by (with_reducible repeat (first|apply Kd.Ql|apply Kd.Qm|apply Kd.N_drew));exact Kd.N_mono HO104.out (fun _ hk=>hk.2)),(by (with_reducible repeat (first|apply Kd.R_alloc|apply Kd.R_drewN|apply Kd.R_drew));exact HO107.out),(by repeat (first|(with_reducible first|exact HB.out|apply Qc|apply Qa|apply Qb)|exact HB.out))⟩)
      ·skip
       refine Kd.R_make_step (Kd.int .i64) _ 3 (by rfl) (N:=21) rfl 23 _ _ rfl (l0.length:Int) rfl rfl Try.underlying23 (.int .i64 0) 8 info3 rfl (by decide) (by omega) 0 (ok:=fun _=>True) (okp:=fun _=>True) rfl (fun _ hk=>hk) trivial (of_decide_eq_true (by first|(with_reducible assumption)|assumption)) (Nat.le_trans (Nat.mul_le_mul_right _ (of_decide_eq_true (by first|(with_reducible assumption)|assumption):(l0.length:Int).toNat≤35184372088832)) (by omega)) (Below.refl _ _) (Nat.le_refl _) ?_;intro v106 w10 ho11 hb hg_ hnew_;clear hg_ hnew_
       (first|rw [←Ny105.out] at ho11|(simp only [Int.reduceToNat] at ho11;rw [←Ny105.out] at ho11))
       have n0_:=aM (Kd.R_lower ho11 (Qh (by repeat (first|(with_reducible first|exact HB.out|apply Qc|apply Qa|apply Qb)|exact HB.out))));have n1_:=aM (Qi (by repeat (first|(with_reducible first|exact HB.out|apply Qc|apply Qa|apply Qb)|exact HB.out)) hb);clear HB;have HO107:=n0_;have HB:=n1_;clear n0_ n1_;clear hb ho11;refine hK.out _ _ trivial (fun hHeld=>?_);clear hK K;refine norm_ (a':=?_) ?_ ?_
       rotate_left
       ·show Act.put _ (some 21) _=_
        simp only [Act.put,aA,aB,aC,i64_w,i32_w]
        rfl
       refine one_ (i:=2) (N:=some 18) #[true,true,true,true,true,true,true,false,false,false] rfl rfl (one_of HT_.out (by kernel_rfl)) (by decide) (fun K hK=>?_)
       first|(refine goes_ Try.func141 (by kernel_rfl) rfl #[.slice A0 l0.length c0,.int .i64 a1] (by rfl) rfl rfl (by (try simp only [aD,aE,aF]);first|done|rfl|(simp only [aG,aH];rfl)) ?_)|(refine call_ 141 #[.slice A0 l0.length c0,.int .i64 a1] (by rfl) rfl (by unfold execOp;simp [resolve,Deferred.ofValue,invoke,Act.eval,enters_ Try.func141 (by kernel_rfl) rfl]) ?_)
       with_reducible refine (impl_tables.calls k _ _ l0 a1 t102 _ ?side1 ?side2 A5.out).mono ?_
       (case side1=>repeat (first|exact (Kd.C_below HR0.out HB.out)|(with_reducible refine Kd.Qj ?_ _)|(with_reducible refine Kd.Qk ?_ _)|(with_reducible refine Kd.C_drew ?_)))
       (case side2=>exact HC0.out)
       rintro e w12 ⟨v103,rfl,ho0,hb⟩
       refine ⟨_,rfl,?_⟩;have n0_:=aM (Kd.R_below (by (with_reducible repeat (first|apply Kd.R_alloc|apply Kd.R_drewN|apply Kd.R_drew));exact HO107.out) hb);have n1_:=aM (Kd.N_lower (Kd.N_mono (ok':=fun k_=>some k_≠(v106:Value).ownBlock) ho0 (fun k_ hk_=>(Kd.fresh' (Kd.R_lt (by (with_reducible repeat (first|apply Kd.R_alloc|apply Kd.R_drewN|apply Kd.R_drew));exact HO107.out)) k_ hk_))) (Qh (by repeat (first|(with_reducible first|exact HB.out|apply Qc|apply Qa|apply Qb)|exact HB.out))));have n2_:=aM (Qi (by repeat (first|(with_reducible first|exact HB.out|apply Qc|apply Qa|apply Qb)|exact HB.out)) hb);clear HO107;clear HB;have HO107:=n0_;have HO104:=n1_;have HB:=n2_;clear n0_ n1_ n2_;(try clear hb);(try clear hb2);(try clear hk);(try clear hi);(try clear ho0);refine hK.out _ _ trivial (fun hHeld=>?_);clear hK K;refine norm_ (a':=?_) ?_ ?_
       rotate_left
       ·show Act.put _ (some 18) _=_
        simp only [Act.put,aA,aB,aC,i64_w,i32_w]
        rfl
       refine pure_ (i:=7) (N:=some 7) (v:=?_) (a':=?_) #[true,true,true,true,true,true,true,true,false,false] rfl rfl (any_of HT_.out (by kernel_rfl)) (fun _ _ _ h=>h) (Or.inl ⟨by rfl,?_⟩) ?_ ?_
       rotate_left
       ·intro w'
        go_simp
        with_reducible rfl
       rotate_left
       ·simp only [Act.put,aA,aB,aC,i64_w,i32_w]
        rfl
       exact norm_ (by simp only [putAll,Act.put,aA,aB,aC]) (hCont (v103,v106) _ ⟨(by (with_reducible repeat (first|apply Kd.Ql|apply Kd.Qm|apply Kd.N_drew));exact HO104.out),(by (with_reducible repeat (first|apply Kd.R_alloc|apply Kd.R_drewN|apply Kd.R_drew));exact HO107.out),(by repeat (first|(with_reducible first|exact HB.out|apply Qc|apply Qa|apply Qb)|exact HB.out))⟩)
     rintro ⟨v103,v106⟩ w13 ⟨h0_,h1_,h2_⟩
     have n0_:Aside0 (Kd.N (Kd.slice 3 (Kd.int .i64)) 23 w13 w.heap.size (fun k_=>some k_≠(v106:Value).ownBlock) v103 t102):=⟨h0_⟩;have n1_:Aside0 (Kd.R (Kd.int .i64) 3 w13 w.heap.size (fun _=>True) v106 y105):=⟨h1_⟩;have n2_:Aside0 (Below w.heap.size w w13):=⟨h2_⟩;clear HB;clear h0_ h1_ h2_;have HO104:=n0_;have HO107:=n1_;have HB:=n2_;clear n0_ n1_ n2_;have hHeld:=trivial;refine norm_ (a':=?_) ?_ ?_
     rotate_left
     ·simp only [putAll,Act.put,aA,aB,aC]
      rfl
     refine pure_ (i:=8) (N:=some 8) (v:=?_) (a':=?_) #[true,true,true,true,true,true,true,true,true,false] rfl rfl (any_of HT_.out (by kernel_rfl)) (fun _ _ _ h=>h) (Or.inl ⟨by rfl,?_⟩) ?_ ?_
     rotate_left
     ·intro w'
      go_simp
      with_reducible rfl
     rotate_left
     ·simp only [Act.put,aA,aB,aC,i64_w,i32_w]
      rfl
     refine pure_ (i:=9) (N:=some 9) (v:=?_) (a':=?_) #[true,true,true,true,true,true,true,true,true,true] rfl rfl (any_of HT_.out (by kernel_rfl)) (fun _ _ _ h=>h) (Or.inl ⟨by rfl,?_⟩) ?_ ?_
     rotate_left
     ·intro w'
      go_simp
      with_reducible rfl
     rotate_left
     ·simp only [Act.put,aA,aB,aC,i64_w,i32_w]
      rfl
     refine done_ (done_of HT_.out (by kernel_rfl)) ?_
     try go_wp2
     go_loopg [9,10] k (fun kq v9 v10 w'=>∃ (x8_1:List Int) (x9_1:Int) (x10_1:Int),v9= .int .i64 x9_1∧v10= .int .i64 x10_1∧Aside0 (impl_BestChoice.l0 kq l0 a1 t102 x8_1 x9_1 x10_1=some (r1,r2,r3))∧Aside0 (kq≤k)∧Aside0 (Kd.N (Kd.slice 3 (Kd.int .i64)) 23 w' w.heap.size (fun k_=>some k_≠(v106:Value).ownBlock) v103 t102)∧Aside0 (Kd.R (Kd.int .i64) 3 w' w.heap.size (fun _=>True) v106 x8_1)∧Aside0 (Below w.heap.size w w'))
     case atStart=>exact ⟨(y105),(a1),(wrap64 ((l0.length:Int) - 1)),(by first|rfl|(simp;done)|(simp [*];done)),(by first|rfl|(simp;done)|(simp [*];done)),H',⟨Nat.le_refl _⟩,⟨by (with_reducible repeat (first|apply Kd.Ql|apply Kd.Qm|apply Kd.N_drew));exact HO104.out⟩,⟨by (with_reducible repeat (first|apply Kd.R_alloc|apply Kd.R_drewN|apply Kd.R_drew));exact HO107.out⟩,⟨by repeat (first|(with_reducible first|exact HB.out|apply Qc|apply Qa|apply Qb)|exact HB.out)⟩⟩
     case round=>
      clear H';(try clear c1);(try clear p2);(try clear c4);(try clear c6);(try clear c6b0);(try clear c6b1);(try clear p6);(try clear c7);(try clear c7b0);(try clear c7b1);obtain ⟨x8_1,x9_1,x10_1,rfl,rfl,HA,HK1,HO_7,HO_8,HB⟩:=hrel
      cases gk with
      |zero=>exact absurd HA.out (by simp [impl_BestChoice.l0])
      |succ k1=>
       have H:=HA.out;clear HA;simp only [impl_BestChoice.l0] at H;by_cases c14:x10_1 ≥ 0
       ·rw [if_pos c14] at H;have c14b0:decide (0≤x10_1)=true:=decide_eq_true c14;clear c14;have H':=aM H;clear H;go_wp2;go_loopg [11] k1 (fun kq v11 w'=>∃ (x11_2:Int),v11= .int .i64 x11_2∧Aside0 (impl_BestChoice.l1 kq l0 a1 t102 x8_1 x9_1 x10_1 x11_2=some (r1,r2,r3))∧Aside0 (kq≤k1)∧Aside0 (Kd.N (Kd.slice 3 (Kd.int .i64)) 23 w' w.heap.size (fun k_=>some k_≠(v106:Value).ownBlock) v103 t102)∧Aside0 (Kd.R (Kd.int .i64) 3 w' w.heap.size (fun _=>True) v106 x8_1)∧Aside0 (Below w.heap.size w w'))
        case atStart=>exact ⟨(0),(by first|rfl|(simp;done)|(simp [*];done)),H',⟨Nat.le_refl _⟩,⟨by (with_reducible repeat (first|apply Kd.Ql|apply Kd.Qm|apply Kd.N_drew));exact HO_7.out⟩,⟨by (with_reducible repeat (first|apply Kd.R_alloc|apply Kd.R_drewN|apply Kd.R_drew));exact HO_8.out⟩,⟨by repeat (first|(with_reducible first|exact HB.out|apply Qc|apply Qa|apply Qb)|exact HB.out)⟩⟩
        case round=>
         clear H';(try clear c1);(try clear p2);(try clear c4);(try clear c6);(try clear c6b0);(try clear c6b1);(try clear p6);(try clear c7);(try clear c7b0);(try clear c7b1);(try clear c14);(try clear c14b0);(try clear p2);(try clear p6);obtain ⟨x11_2,rfl,HA,HK2,HO_7,HO_8,HB⟩:=hrel
         cases gk with
         |zero=>exact absurd HA.out (by simp [impl_BestChoice.l1])
         |succ k2=>
          have H:=HA.out;clear HA;simp only [impl_BestChoice.l1] at H;by_cases c15:0≤x10_1
          ·rw [if_pos c15] at H;have c15b0:decide (0≤x10_1)=true:=decide_eq_true c15;clear c15;by_cases c16:x10_1<(t102.length:Int)
           ·rw [if_pos c16] at H;have c16b0:decide (x10_1<(t102.length:Int))=true:=decide_eq_true c16;clear c16;obtain ⟨ji17,hji17⟩:∃ j_:Int,(wrap64 (x9_1 - x11_2))=j_:=⟨_,rfl⟩;replace H:(if 0≤(ji17) then (if (ji17)<((rd_L2 t102 x10_1).length:Int) then (if x10_1<(l0.length:Int) then ((impl_Offer_gain.f ((rd_T53 l0 x10_1).f0) x11_2).bind fun t113=>(if 0≤(wrap64 (x10_1+1)) then (if (wrap64 (x10_1+1))<(t102.length:Int) then (if 0≤x9_1 then (if x9_1<((rd_L2 t102 (wrap64 (x10_1+1))).length:Int) then (if (wrap64 ((rd (rd_L2 t102 x10_1) (ji17))+t113))=(rd (rd_L2 t102 (wrap64 (x10_1+1))) x9_1) then (if x10_1<(x8_1.length:Int) then (impl_BestChoice.l0 k2 l0 a1 t102 (x8_1.set (x10_1:Int).toNat x11_2) ji17 (wrap64 (x10_1 - 1))) else (none)) else (impl_BestChoice.l1 k2 l0 a1 t102 x8_1 x9_1 x10_1 (wrap64 (x11_2+1)))) else (none)) else (none)) else (none)) else (none))) else (none)) else (none)) else (none))=some (r1,r2,r3):=by first|(rw [hji17] at H;exact H)|(simp only [hji17] at H ⊢;exact H)
            have hji17w:(IntKind.i64.wrap (x9_1 - x11_2))=ji17:=(i64_w _).trans hji17;by_cases c18:0≤(ji17)
            ·rw [if_pos c18] at H;have c18b0:decide (0≤(ji17))=true:=decide_eq_true c18;clear c18;by_cases c19:(ji17)<((rd_L2 t102 x10_1).length:Int)
             ·rw [if_pos c19] at H;have c19b0:decide ((ji17)<((rd_L2 t102 x10_1).length:Int))=true:=decide_eq_true c19;clear c19;by_cases c20:x10_1<(l0.length:Int)
              ·rw [if_pos c20] at H;have c20b0:decide (x10_1<(l0.length:Int))=true:=decide_eq_true c20;clear c20;replace H:=Option.bind_eq_some_iff.mp H;obtain ⟨t113,A210,H⟩:=H;replace H:(if 0≤(wrap64 (x10_1+1)) then (if (wrap64 (x10_1+1))<(t102.length:Int) then (if 0≤x9_1 then (if x9_1<((rd_L2 t102 (wrap64 (x10_1+1))).length:Int) then (if (wrap64 ((rd (rd_L2 t102 x10_1) (ji17))+t113))=(rd (rd_L2 t102 (wrap64 (x10_1+1))) x9_1) then (if x10_1<(x8_1.length:Int) then (impl_BestChoice.l0 k2 l0 a1 t102 (x8_1.set (x10_1:Int).toNat x11_2) ji17 (wrap64 (x10_1 - 1))) else (none)) else (impl_BestChoice.l1 k2 l0 a1 t102 x8_1 x9_1 x10_1 (wrap64 (x11_2+1)))) else (none)) else (none)) else (none)) else (none))=some (r1,r2,r3):=H;have A21:=aM A210;clear A210;obtain ⟨ji22,hji22⟩:∃ j_:Int,(wrap64 (x10_1+1))=j_:=⟨_,rfl⟩;replace H:(if 0≤(ji22) then (if (ji22)<(t102.length:Int) then (if 0≤x9_1 then (if x9_1<((rd_L2 t102 (ji22)).length:Int) then (if (wrap64 ((rd (rd_L2 t102 x10_1) (ji17))+t113))=(rd (rd_L2 t102 (ji22)) x9_1) then (if x10_1<(x8_1.length:Int) then (impl_BestChoice.l0 k2 l0 a1 t102 (x8_1.set (x10_1:Int).toNat x11_2) ji17 (wrap64 (x10_1 - 1))) else (none)) else (impl_BestChoice.l1 k2 l0 a1 t102 x8_1 x9_1 x10_1 (wrap64 (x11_2+1)))) else (none)) else (none)) else (none)) else (none))=some (r1,r2,r3):=by first|(rw [hji22] at H;exact H)|(simp only [hji22] at H ⊢;exact H)
               (try rw [hji22] at A21);have hji22w:(IntKind.i64.wrap (x10_1+1))=ji22:=(i64_w _).trans hji22;by_cases c23:0≤(ji22)
               ·rw [if_pos c23] at H;have c23b0:decide (0≤(ji22))=true:=decide_eq_true c23;clear c23;by_cases c24:(ji22)<(t102.length:Int)
                ·rw [if_pos c24] at H;have c24b0:decide ((ji22)<(t102.length:Int))=true:=decide_eq_true c24;clear c24;by_cases c25:0≤x9_1
                 ·rw [if_pos c25] at H;have c25b0:decide (0≤x9_1)=true:=decide_eq_true c25;clear c25;by_cases c26:x9_1<((rd_L2 t102 (ji22)).length:Int)
                  ·rw [if_pos c26] at H;have c26b0:decide (x9_1<((rd_L2 t102 (ji22)).length:Int))=true:=decide_eq_true c26;clear c26;by_cases c27:(wrap64 ((rd (rd_L2 t102 x10_1) (ji17))+t113))=(rd (rd_L2 t102 (ji22)) x9_1)
                   ·rw [if_pos c27] at H;have c27b0:((wrap64 ((rd (rd_L2 t102 x10_1) (ji17))+t113)) == (rd (rd_L2 t102 (ji22)) x9_1))=true:=beq_iff_eq.mpr c27;have c27b1:((wrap64 ((rd (rd_L2 t102 x10_1) (ji17))+t113)) != (rd (rd_L2 t102 (ji22)) x9_1))=false:=bne_eq_false_iff_eq.mpr c27;clear c27;by_cases c28:x10_1<(x8_1.length:Int)
                    ·rw [if_pos c28] at H;have c28b0:decide (x10_1<(x8_1.length:Int))=true:=decide_eq_true c28;clear c28;obtain ⟨y116,hy116⟩:∃ y_:List Int,y_=(x8_1.set (x10_1:Int).toNat x11_2):=⟨_,rfl⟩;replace H:(impl_BestChoice.l0 k2 l0 a1 t102 y116 ji17 (wrap64 (x10_1 - 1)))=some (r1,r2,r3):=by first|(rw [hy116];with_reducible exact H)|(have H2_:=(Option.bind_some _ _).symm.trans H;rw [hy116];with_reducible exact H2_)|(have H2_:=(Option.bind_some _ _).symm.trans H;with_reducible exact H2_)|with_reducible exact H|(rw [hy116];exact H)|exact H
                     have Ny116:=aM hy116;clear hy116;have H':=aM H;clear H
                     try go_wp2
                     have n0_:=aM (Kd.N_drew HO_7.out);have n1_:=aM (Kd.R_drew HO_8.out);have n2_:=aM (Qb HB.out);clear HO_7;clear HO_8;clear HB;have HO_7:=n0_;have HO_8:=n1_;have HB:=n2_;clear n0_ n1_ n2_;obtain ⟨Ao31,co31,eo31⟩:=Kd.N_slice HO_7.out
                     (first|subst eo31|(injection eo31 with f1_ f2_ f3_;have f4_:=f1_.symm;have f5_:=f3_.symm;clear f1_ f2_ f3_;subst f4_;subst f5_))
                     have p110:0≤(x10_1:Int):=of_decide_eq_true (by first|(with_reducible assumption)|assumption);have q110:x10_1<(t102.length:Int):=of_decide_eq_true (by first|(with_reducible assumption)|assumption);obtain ⟨ad110,A110_0,c110_0,e110,hx110_0,hl110_0,hi110_0⟩:=at_L2 (Kd.Qs HO_7.out).2.2 x10_1 p110 q110
                     cases e110
                     obtain ⟨ce110,hce110,hMe110,hcc110⟩:=Kd.N_get HO_7.out [] x10_1 p110 (by first|exact q110|exact of_decide_eq_true (by first|(with_reducible assumption)|assumption)|(have e_:=(Kd.Qs HO_7.out).1;omega));obtain ⟨ua110_0,uc110_0,rfl,ul110_0,ge110_0⟩:=Kd.FK_slice_open hMe110;have hv110_0:=hcc110 0 _ rfl;rw [Nat.add_zero,show ((Kd.slice 3 (Kd.int .i64))).sz=1 from rfl,Nat.mul_one] at hv110_0;replace hv110_0:=Option.some.inj (hv110_0.symm.trans hx110_0)
                     injection hv110_0 with hva_ hvn_ hvc_
                     rw [hva_] at ge110_0;rw [hvc_] at ul110_0;have HL110_0:=aM (show Kd.V (Kd.int .i64) 3 _ w.heap.size _ _ (rd_L2 t102 x10_1) from Kd.V_mk ul110_0 ge110_0);clear hva_ hvn_ hvc_ ge110_0 ul110_0;clear hcc110 hce110;have HR110_0:=aM hi110_0;have HC110_0:=aM hl110_0;clear hi110_0 hl110_0;replace p110:=eq_true p110;replace q110:=eq_true q110;have p111:0≤((ji17):Int):=of_decide_eq_true (by first|(with_reducible assumption)|assumption);have q111:(ji17)<((rd_L2 t102 x10_1).length:Int):=of_decide_eq_true (by first|(with_reducible assumption)|assumption);obtain ⟨ad111,e111,hx111_0⟩:=Kd.at_int (by repeat (first|(with_reducible exact HR110_0.out)|(with_reducible refine Kd.Qj ?_ _)|(with_reducible refine Kd.Qk ?_ _)|(with_reducible refine Kd.C_drew ?_)|exact HR110_0.out)) (ji17) p111 q111
                     cases e111
                     replace p111:=eq_true p111;replace q111:=eq_true q111;have p112:0≤(x10_1:Int):=of_decide_eq_true (by first|(with_reducible assumption)|assumption);have q112:x10_1<(l0.length:Int):=of_decide_eq_true (by first|(with_reducible assumption)|assumption);obtain ⟨ad112,A112_0,c112_0,e112,hx112_0,hl112_0,hi112_0⟩:=at_T53 HR0.out x10_1 p112 q112;have hw112_0:=hx112_0
                     cases e112
                     replace hx112_0:=(HB.out.cell (aI w _ hx112_0)).trans hx112_0;have HR112_0:=aM hi112_0;have HC112_0:=aM hl112_0;clear hi112_0 hl112_0;replace p112:=eq_true p112;replace q112:=eq_true q112;have p114:0≤((ji22):Int):=of_decide_eq_true (by first|(with_reducible assumption)|assumption);have q114:(ji22)<(t102.length:Int):=of_decide_eq_true (by first|(with_reducible assumption)|assumption);obtain ⟨ad114,A114_0,c114_0,e114,hx114_0,hl114_0,hi114_0⟩:=at_L2 (Kd.Qs HO_7.out).2.2 (ji22) p114 q114;obtain rfl:ad110=ad114:=(by injection e114);obtain ⟨ce114,hce114,hMe114,hcc114⟩:=Kd.N_get HO_7.out [] (ji22) p114 (by first|exact q114|exact of_decide_eq_true (by first|(with_reducible assumption)|assumption)|(have e_:=(Kd.Qs HO_7.out).1;omega));obtain ⟨ua114_0,uc114_0,rfl,ul114_0,ge114_0⟩:=Kd.FK_slice_open hMe114;have hv114_0:=hcc114 0 _ rfl;rw [Nat.add_zero,show ((Kd.slice 3 (Kd.int .i64))).sz=1 from rfl,Nat.mul_one] at hv114_0;replace hv114_0:=Option.some.inj (hv114_0.symm.trans hx114_0)
                     injection hv114_0 with hva_ hvn_ hvc_
                     rw [hva_] at ge114_0;rw [hvc_] at ul114_0;have HL114_0:=aM (show Kd.V (Kd.int .i64) 3 _ w.heap.size _ _ (rd_L2 t102 (ji22)) from Kd.V_mk ul114_0 ge114_0);clear hva_ hvn_ hvc_ ge114_0 ul114_0;clear hcc114 hce114;have HR114_0:=aM hi114_0;have HC114_0:=aM hl114_0;clear hi114_0 hl114_0;replace p114:=eq_true p114;replace q114:=eq_true q114;have p115:0≤(x9_1:Int):=of_decide_eq_true (by first|(with_reducible assumption)|assumption);have q115:x9_1<((rd_L2 t102 (ji22)).length:Int):=of_decide_eq_true (by first|(with_reducible assumption)|assumption);obtain ⟨ad115,e115,hx115_0⟩:=Kd.at_int (by repeat (first|(with_reducible exact HR114_0.out)|(with_reducible refine Kd.Qj ?_ _)|(with_reducible refine Kd.Qk ?_ _)|(with_reducible refine Kd.C_drew ?_)|exact HR114_0.out)) x9_1 p115 q115
                     cases e115
                     replace p115:=eq_true p115;replace q115:=eq_true q115;refine start_ (n:=25) (S:=fun w'=>w'.cell? (ad110.add (x10_1).toNat)=some (.slice (some ad111) (rd_L2 t102 x10_1).length c110_0)∧w'.cell? (ad111.add ((ji17)).toNat)=some (.int .i64 (rd (rd_L2 t102 x10_1) (ji17)))∧w'.cell? (ad112.add (x10_1).toNat)=some (.slice A112_0 ((rd_T53 l0 x10_1).f0).length c112_0)∧w'.cell? (ad110.add ((ji22)).toNat)=some (.slice (some ad115) (rd_L2 t102 (ji22)).length c114_0)∧w'.cell? (ad115.add (x9_1).toNat)=some (.int .i64 (rd (rd_L2 t102 (ji22)) x9_1))) (ds:=[]) #[false,false,false,false,false,false,false,false,false,false,false,false,false,false,false,false,false,false,false,false,false,false,false,false,false] (by kernel_rfl) rfl rfl ⟨hx110_0,hx111_0,((HB.out.cell (aI w _ hw112_0)).trans hw112_0),hx114_0,hx115_0⟩ (fun hHeld=>?_);refine with_tabW impl_BestChoice.tab8 impl_BestChoice.bits8 (fun HT_ HW_=>?_)
                     generalize wr.drew=w30 at HO_7 HO_8 HB HL110_0 HL114_0 HR110_0 HR112_0 HR114_0 hx110_0 hx111_0 hx112_0 hx114_0 hx115_0 hHeld ⊢
                     refine pure_ (i:=0) (N:=some 30) (v:=?_) (a':=?_) #[true,false,false,false,false,false,false,false,false,false,false,false,false,false,false,false,false,false,false,false,false,false,false,false,false] rfl rfl (any_of HT_.out (by kernel_rfl)) (fun _ _ _ h=>h) (Or.inl ⟨by rfl,?_⟩) ?_ ?_
                     rotate_left
                     ·intro w'
                      go_simp
                      with_reducible rfl
                     rotate_left
                     ·simp only [Act.put,aA,aB,aC,i64_w,i32_w]
                      rfl
                     refine pure_ (i:=1) (N:=some 31) (v:=?_) (a':=?_) #[true,true,false,false,false,false,false,false,false,false,false,false,false,false,false,false,false,false,false,false,false,false,false,false,false] rfl rfl (any_of HT_.out (by kernel_rfl)) (fun _ _ _ h=>h) (Or.inl ⟨by rfl,?_⟩) ?_ ?_
                     rotate_left
                     ·intro w'
                      go_simp
                      with_reducible rfl
                     rotate_left
                     ·simp only [Act.put,aA,aB,aC,i64_w,i32_w]
                      rfl
                     refine pure_ (i:=2) (N:=some 32) (v:=?_) (a':=?_) #[true,true,true,false,false,false,false,false,false,false,false,false,false,false,false,false,false,false,false,false,false,false,false,false,false] rfl rfl (any_of HT_.out (by kernel_rfl)) (fun _ _ _ h=>h) (Or.inl ⟨by rfl,?_⟩) ?_ ?_
                     rotate_left
                     ·intro w'
                      go_simp
                      with_reducible rfl
                     rotate_left
                     ·simp only [Act.put,aA,aB,aC,i64_w,i32_w]
                      rfl
                     refine pure_ (i:=4) (N:=some 34) (v:=?_) (a':=?_) #[true,true,true,false,true,false,false,false,false,false,false,false,false,false,false,false,false,false,false,false,false,false,false,false,false] rfl rfl (any_of HT_.out (by kernel_rfl)) (fun _ _ _ h=>h) (Or.inl ⟨by rfl,?_⟩) ?_ ?_
                     rotate_left
                     ·intro w'
                      go_simp
                      with_reducible rfl
                     rotate_left
                     ·simp only [Act.put,aA,aB,aC,i64_w,i32_w]
                      rfl
                     refine pure_ (i:=5) (N:=some 35) (v:=?_) (a':=?_) #[true,true,true,false,true,true,false,false,false,false,false,false,false,false,false,false,false,false,false,false,false,false,false,false,false] rfl rfl (any_of HT_.out (by kernel_rfl)) (fun _ _ _ h=>h) (Or.inl ⟨by rfl,?_⟩) ?_ ?_
                     rotate_left
                     ·intro w'
                      go_simp
                      with_reducible rfl
                     rotate_left
                     ·simp only [Act.put,aA,aB,aC,i64_w,i32_w]
                      rfl
                     refine pure_ (i:=6) (N:=some 36) (v:=?_) (a':=?_) #[true,true,true,false,true,true,true,false,false,false,false,false,false,false,false,false,false,false,false,false,false,false,false,false,false] rfl rfl (any_of HT_.out (by kernel_rfl)) (fun _ _ _ h=>h) (Or.inl ⟨by rfl,?_⟩) ?_ ?_
                     rotate_left
                     ·intro w'
                      go_simp
                      with_reducible rfl
                     rotate_left
                     ·simp only [Act.put,aA,aB,aC,i64_w,i32_w]
                      rfl
                     refine pure_ (i:=9) (N:=some 39) (v:=?_) (a':=?_) #[true,true,true,false,true,true,true,false,false,true,false,false,false,false,false,false,false,false,false,false,false,false,false,false,false] rfl rfl (any_of HT_.out (by kernel_rfl)) (fun _ _ _ h=>h) (Or.inl ⟨by rfl,?_⟩) ?_ ?_
                     rotate_left
                     ·intro w'
                      go_simp
                      with_reducible rfl
                     rotate_left
                     ·simp only [Act.put,aA,aB,aC,i64_w,i32_w]
                      rfl
                     refine pure_ (i:=10) (N:=some 40) (v:=?_) (a':=?_) #[true,true,true,false,true,true,true,false,false,true,true,false,false,false,false,false,false,false,false,false,false,false,false,false,false] rfl rfl (any_of HT_.out (by kernel_rfl)) (fun _ _ _ h=>h) (Or.inl ⟨by rfl,?_⟩) ?_ ?_
                     rotate_left
                     ·intro w'
                      go_simp
                      with_reducible rfl
                     rotate_left
                     ·simp only [Act.put,aA,aB,aC,i64_w,i32_w]
                      rfl
                     refine pure_ (i:=11) (N:=some 41) (v:=?_) (a':=?_) #[true,true,true,false,true,true,true,false,false,true,true,true,false,false,false,false,false,false,false,false,false,false,false,false,false] rfl rfl (any_of HT_.out (by kernel_rfl)) (fun _ _ _ h=>h) (Or.inl ⟨by rfl,?_⟩) ?_ ?_
                     rotate_left
                     ·intro w'
                      go_simp
                      with_reducible rfl
                     rotate_left
                     ·simp only [Act.put,aA,aB,aC,i64_w,i32_w]
                      rfl
                     refine pure_ (i:=13) (N:=some 43) (v:=?_) (a':=?_) #[true,true,true,false,true,true,true,false,false,true,true,true,false,true,false,false,false,false,false,false,false,false,false,false,false] rfl rfl (any_of HT_.out (by kernel_rfl)) (fun _ _ _ h=>h) (Or.inl ⟨by rfl,?_⟩) ?_ ?_
                     rotate_left
                     ·intro w'
                      go_simp
                      with_reducible rfl
                     rotate_left
                     ·simp only [Act.put,aA,aB,aC,i64_w,i32_w]
                      rfl
                     refine pure_ (i:=16) (N:=some 46) (v:=?_) (a':=?_) #[true,true,true,false,true,true,true,false,false,true,true,true,false,true,false,false,true,false,false,false,false,false,false,false,false] rfl rfl (any_of HT_.out (by kernel_rfl)) (fun _ _ _ h=>h) (Or.inl ⟨by rfl,?_⟩) ?_ ?_
                     rotate_left
                     ·intro w'
                      go_simp
                      with_reducible rfl
                     rotate_left
                     ·simp only [Act.put,aA,aB,aC,i64_w,i32_w]
                      rfl
                     refine pure_ (i:=17) (N:=some 47) (v:=?_) (a':=?_) #[true,true,true,false,true,true,true,false,false,true,true,true,false,true,false,false,true,true,false,false,false,false,false,false,false] rfl rfl (any_of HT_.out (by kernel_rfl)) (fun _ _ _ h=>h) (Or.inl ⟨by rfl,?_⟩) ?_ ?_
                     rotate_left
                     ·intro w'
                      go_simp
                      with_reducible rfl
                     rotate_left
                     ·simp only [Act.put,aA,aB,aC,i64_w,i32_w]
                      rfl
                     refine pure_ (i:=18) (N:=some 48) (v:=?_) (a':=?_) #[true,true,true,false,true,true,true,false,false,true,true,true,false,true,false,false,true,true,true,false,false,false,false,false,false] rfl rfl (any_of HT_.out (by kernel_rfl)) (fun _ _ _ h=>h) (Or.inl ⟨by rfl,?_⟩) ?_ ?_
                     rotate_left
                     ·intro w'
                      go_simp
                      with_reducible rfl
                     rotate_left
                     ·simp only [Act.put,aA,aB,aC,i64_w,i32_w]
                      rfl
                     refine pure_ (i:=19) (N:=some 49) (v:=?_) (a':=?_) #[true,true,true,false,true,true,true,false,false,true,true,true,false,true,false,false,true,true,true,true,false,false,false,false,false] rfl rfl (any_of HT_.out (by kernel_rfl)) (fun _ _ _ h=>h) (Or.inl ⟨by rfl,?_⟩) ?_ ?_
                     rotate_left
                     ·intro w'
                      go_simp
                      with_reducible rfl
                     rotate_left
                     ·simp only [Act.put,aA,aB,aC,i64_w,i32_w]
                      rfl
                     refine pure_ (i:=21) (N:=some 51) (v:=?_) (a':=?_) #[true,true,true,false,true,true,true,false,false,true,true,true,false,true,false,false,true,true,true,true,false,true,false,false,false] rfl rfl (any_of HT_.out (by kernel_rfl)) (fun _ _ _ h=>h) (Or.inl ⟨by rfl,?_⟩) ?_ ?_
                     rotate_left
                     ·intro w'
                      go_simp
                      with_reducible rfl
                     rotate_left
                     ·simp only [Act.put,aA,aB,aC,i64_w,i32_w]
                      rfl
                     refine take_ (i:=3) (N:=some 33) (v:=?_) (a':=?_) #[true,true,true,true,true,true,true,false,false,true,true,true,false,true,false,false,true,true,true,true,false,true,false,false,false] rfl rfl (take_ofW HT_.out HW_.out (by kernel_rfl)) (fun _ _ _ h=>h) (Or.inl ⟨by rfl,?_⟩) hHeld ?_ ?_
                     rotate_left
                     ·rintro w' ⟨s0,s1,s2,s3,s4⟩
                      go_simp
                      with_reducible rfl
                     rotate_left
                     ·simp only [Act.put,aA,aB,aC,i64_w,i32_w]
                      rfl
                     refine pure_ (i:=7) (N:=some 37) (v:=?_) (a':=?_) #[true,true,true,true,true,true,true,true,false,true,true,true,false,true,false,false,true,true,true,true,false,true,false,false,false] rfl rfl (any_of HT_.out (by kernel_rfl)) (fun _ _ _ h=>h) (Or.inl ⟨by rfl,?_⟩) ?_ ?_
                     rotate_left
                     ·intro w'
                      go_simp
                      with_reducible rfl
                     rotate_left
                     ·simp only [Act.put,aA,aB,aC,i64_w,i32_w]
                      rfl
                     refine take_ (i:=8) (N:=some 38) (v:=?_) (a':=?_) #[true,true,true,true,true,true,true,true,true,true,true,true,false,true,false,false,true,true,true,true,false,true,false,false,false] rfl rfl (take_ofW HT_.out HW_.out (by kernel_rfl)) (fun _ _ _ h=>h) (Or.inl ⟨by rfl,?_⟩) hHeld ?_ ?_
                     rotate_left
                     ·rintro w' ⟨s0,s1,s2,s3,s4⟩
                      go_simp
                      with_reducible rfl
                     rotate_left
                     ·simp only [Act.put,aA,aB,aC,i64_w,i32_w]
                      rfl
                     refine take_ (i:=12) (N:=some 42) (v:=?_) (a':=?_) #[true,true,true,true,true,true,true,true,true,true,true,true,true,true,false,false,true,true,true,true,false,true,false,false,false] rfl rfl (take_ofW HT_.out HW_.out (by kernel_rfl)) (fun _ _ _ h=>h) (Or.inl ⟨by rfl,?_⟩) hHeld ?_ ?_
                     rotate_left
                     ·rintro w' ⟨s0,s1,s2,s3,s4⟩
                      go_simp
                      with_reducible rfl
                     rotate_left
                     ·simp only [Act.put,aA,aB,aC,i64_w,i32_w]
                      rfl
                     refine take_ (i:=20) (N:=some 50) (v:=?_) (a':=?_) #[true,true,true,true,true,true,true,true,true,true,true,true,true,true,false,false,true,true,true,true,true,true,false,false,false] rfl rfl (take_ofW HT_.out HW_.out (by kernel_rfl)) (fun _ _ _ h=>h) (Or.inl ⟨by rfl,?_⟩) hHeld ?_ ?_
                     rotate_left
                     ·rintro w' ⟨s0,s1,s2,s3,s4⟩
                      go_simp
                      with_reducible rfl
                     rotate_left
                     ·simp only [Act.put,aA,aB,aC,i64_w,i32_w]
                      rfl
                     refine pure_ (i:=22) (N:=some 52) (v:=?_) (a':=?_) #[true,true,true,true,true,true,true,true,true,true,true,true,true,true,false,false,true,true,true,true,true,true,true,false,false] rfl rfl (any_of HT_.out (by kernel_rfl)) (fun _ _ _ h=>h) (Or.inl ⟨by rfl,?_⟩) ?_ ?_
                     rotate_left
                     ·intro w'
                      go_simp
                      with_reducible rfl
                     rotate_left
                     ·simp only [Act.put,aA,aB,aC,i64_w,i32_w]
                      rfl
                     refine take_ (i:=23) (N:=some 53) (v:=?_) (a':=?_) #[true,true,true,true,true,true,true,true,true,true,true,true,true,true,false,false,true,true,true,true,true,true,true,true,false] rfl rfl (take_ofW HT_.out HW_.out (by kernel_rfl)) (fun _ _ _ h=>h) (Or.inl ⟨by rfl,?_⟩) hHeld ?_ ?_
                     rotate_left
                     ·rintro w' ⟨s0,s1,s2,s3,s4⟩
                      go_simp
                      with_reducible rfl
                     rotate_left
                     ·simp only [Act.put,aA,aB,aC,i64_w,i32_w]
                      rfl
                     refine one_ (i:=14) (N:=some 44) #[true,true,true,true,true,true,true,true,true,true,true,true,true,true,true,false,true,true,true,true,true,true,true,true,false] rfl rfl (one_of HT_.out (by kernel_rfl)) (by decide) (fun K hK=>?_)
                     first|(refine goes_ Try.func144 (by kernel_rfl) rfl #[.agg #[.slice A112_0 ((rd_T53 l0 x10_1).f0).length c112_0],.int .i64 x11_2] (by rfl) rfl rfl (by (try simp only [aD,aE,aF]);first|done|rfl|(simp only [aG,aH];rfl)) ?_)|(refine call_ 144 #[.agg #[.slice A112_0 ((rd_T53 l0 x10_1).f0).length c112_0],.int .i64 x11_2] (by rfl) rfl (by unfold execOp;simp [resolve,Deferred.ofValue,invoke,Act.eval,enters_ Try.func144 (by kernel_rfl) rfl]) ?_)
                     with_reducible refine (impl_Offer_gain.calls _ _ ((rd_T53 l0 x10_1).f0) x11_2 t113 _ ?side1 ?side2 A21.out).mono ?_
                     (case side1=>repeat (first|exact (Kd.C_below HR112_0.out HB.out)|(with_reducible refine Kd.Qj ?_ _)|(with_reducible refine Kd.Qk ?_ _)|(with_reducible refine Kd.C_drew ?_)))
                     (case side2=>exact HC112_0.out)
                     rintro e w32 ⟨rfl,hb⟩
                     have HS0_:=(hb.cell (aI _ _ (hHeld.1))).trans (hHeld.1);have HS1_:=(hb.cell (aI _ _ (hHeld.2.1))).trans (hHeld.2.1);have HS3_:=(hb.cell (aI _ _ (hHeld.2.2.2.1))).trans (hHeld.2.2.2.1);have HS4_:=(hb.cell (aI _ _ (hHeld.2.2.2.2))).trans (hHeld.2.2.2.2);refine ⟨_,rfl,?_⟩;have n0_:=aM (Kd.N_below (by (with_reducible repeat (first|apply Kd.Ql|apply Kd.Qm|apply Kd.N_drew));exact HO_7.out) hb);have n1_:=aM (Kd.R_below (by (with_reducible repeat (first|apply Kd.R_alloc|apply Kd.R_drewN|apply Kd.R_drew));exact HO_8.out) hb);have n2_:=aM (Kd.V_below (by (with_reducible repeat (first|apply Kd.V_alloc|apply Kd.V_drewN|apply Kd.V_drew));exact HL110_0.out) hb);have n3_:=aM (Kd.V_below (by (with_reducible repeat (first|apply Kd.V_alloc|apply Kd.V_drewN|apply Kd.V_drew));exact HL114_0.out) hb);have n4_:=aM (Kd.C_below (by repeat (first|(with_reducible exact HR110_0.out)|(with_reducible refine Kd.Qj ?_ _)|(with_reducible refine Kd.Qk ?_ _)|(with_reducible refine Kd.C_drew ?_)|exact HR110_0.out)) hb);have n5_:=aM (Kd.C_below (by repeat (first|(with_reducible exact HR114_0.out)|(with_reducible refine Kd.Qj ?_ _)|(with_reducible refine Kd.Qk ?_ _)|(with_reducible refine Kd.C_drew ?_)|exact HR114_0.out)) hb);have n6_:=aM (Qi (by repeat (first|(with_reducible first|exact HB.out|apply Qc|apply Qa|apply Qb)|exact HB.out)) hb);clear HO_7;clear HO_8;clear HL110_0;clear HL114_0;clear HR110_0;clear HR114_0;clear HB;have HO_7:=n0_;have HO_8:=n1_;have HL110_0:=n2_;have HL114_0:=n3_;have HR110_0:=n4_;have HR114_0:=n5_;have HB:=n6_;clear n0_ n1_ n2_ n3_ n4_ n5_ n6_;(try clear hb);(try clear hb2);(try clear hk);(try clear hi);refine hK.out _ _ ⟨HS0_,HS1_,((HB.out.cell (aI w _ hw112_0)).trans hw112_0),HS3_,HS4_⟩ (fun hHeld=>?_);clear hK K;refine norm_ (a':=?_) ?_ ?_
                     rotate_left
                     ·show Act.put _ (some 44) _=_
                      simp only [Act.put,aA,aB,aC,i64_w,i32_w]
                      rfl
                     refine pure_ (i:=15) (N:=some 45) (v:=?_) (a':=?_) #[true,true,true,true,true,true,true,true,true,true,true,true,true,true,true,true,true,true,true,true,true,true,true,true,false] rfl rfl (any_of HT_.out (by kernel_rfl)) (fun _ _ _ h=>h) (Or.inl ⟨by rfl,?_⟩) ?_ ?_
                     rotate_left
                     ·intro w'
                      go_simp
                      with_reducible rfl
                     rotate_left
                     ·simp only [Act.put,aA,aB,aC,i64_w,i32_w]
                      rfl
                     refine pure_ (i:=24) (N:=some 54) (v:=?_) (a':=?_) #[true,true,true,true,true,true,true,true,true,true,true,true,true,true,true,true,true,true,true,true,true,true,true,true,true] rfl rfl (any_of HT_.out (by kernel_rfl)) (fun _ _ _ h=>h) (Or.inl ⟨by rfl,?_⟩) ?_ ?_
                     rotate_left
                     ·intro w'
                      go_simp
                      with_reducible rfl
                     rotate_left
                     ·simp only [Act.put,aA,aB,aC,i64_w,i32_w]
                      rfl
                     refine done_ (done_of HT_.out (by kernel_rfl)) ?_;have p29:0≤(x10_1:Int):=of_decide_eq_true (by first|(with_reducible assumption)|assumption);have q29:(x10_1:Int)<((x8_1.length:Int):Int):=of_decide_eq_true (by first|(with_reducible assumption)|assumption);obtain ⟨go29,co29,eo29,gb29,gl29,cl29,HG29⟩:=Kd.R_form HO_8.out (by omega)
                     (first|cases eo29|(injection eo29 with ea_ en_ ec_;(first|subst ea_|(injection ea_ with ea_;subst ea_));subst ec_;clear en_))
                     have GB29:=aM gb29;have GG29:=aM HG29;clear gb29 gl29 HG29;obtain ⟨hx29_0,hf29_0⟩:=Kd.R_celln 0 HO_8.out (x10_1:Int) p29 q29;replace p29:=eq_true p29;replace q29:=eq_true q29;obtain ⟨hy33_,hz33_⟩:=Kd.R_celln 0 HO_8.out (x10_1:Int) (of_decide_eq_true (by first|(with_reducible assumption)|assumption)) (of_decide_eq_true (by first|(with_reducible assumption)|assumption));have HP33:=Kd.R_putg HO_8.out (x10_1:Int) x11_2
                     try go_wp2_with (first|((with_reducible refine gate_store (t:=3) (p:=60) rfl ?_);refine store_event (t:=3) (p:=60) (v:=?vo_w34) (w1:=(w32.setCell ⟨go29,(x10_1:Int).toNat,none⟩ (.int .i64 x11_2))) ?hg ?ho ?hn ?hr ?_;(case ho=>rfl);(case hg=>rfl);(case hn=>rfl);(case hr=>first|(go_simp;done)|(go_simp;rfl));intro w34 hw;have hg:w32.grownBy w34 (some go29):=(by rw [hw];exact HP33.2);have hp_:Kd.R (Kd.int .i64) 3 w34 w.heap.size (fun _=>True) (.slice (some ⟨go29,0,none⟩) x8_1.length co29) y116:=(by rw [hw,Ny116.out];exact HP33.1);clear HP33;have n0_:=aM (Kd.N_afterv (v:=(.slice (some ⟨go29,0,none⟩) x8_1.length co29)) (v1:=(.slice (some ⟨go29,0,none⟩) x8_1.length co29)) (ok:=(fun _=>True)) (by (with_reducible repeat (first|apply Kd.Ql|apply Kd.Qm|apply Kd.N_drew));exact Kd.N_mono HO_7.out (fun _ hk=>⟨trivial,hk⟩)) hg (.inl rfl));have n1_:=aM (hp_);have n2_:=aM (Kd.V_afterv (v:=(.slice (some ⟨go29,0,none⟩) x8_1.length co29)) (v1:=(.slice (some ⟨go29,0,none⟩) x8_1.length co29)) (ok:=(fun k_=>some k_≠(.slice (some ad110) t102.length co31:Value).ownBlock)) (by (with_reducible repeat (first|apply Kd.V_alloc|apply Kd.V_drewN|apply Kd.V_drew));exact Kd.V_mono HL110_0.out (fun _ hk=>⟨hk.2,hk.1⟩)) hg (.inl rfl));have n3_:=aM (Kd.V_afterv (v:=(.slice (some ⟨go29,0,none⟩) x8_1.length co29)) (v1:=(.slice (some ⟨go29,0,none⟩) x8_1.length co29)) (ok:=(fun k_=>some k_≠(.slice (some ad110) t102.length co31:Value).ownBlock)) (by (with_reducible repeat (first|apply Kd.V_alloc|apply Kd.V_drewN|apply Kd.V_drew));exact Kd.V_mono HL114_0.out (fun _ hk=>⟨hk.2,hk.1⟩)) hg (.inl rfl));have n4_:=aM ((by rw [hw];exact Qd (HB.out) GB29.out:Below w.heap.size w w34));clear HO_7;clear HO_8;clear HL110_0;clear HL114_0;clear HB;have HO_7:=n0_;have HO_8:=n1_;have HL110_0:=n2_;have HL114_0:=n3_;have HB:=n4_;clear n0_ n1_ n2_ n3_ n4_;clear hg hw hp_))
                     go_roundg k2
                     case measure=>have:=HK1.out;have:=HK2.out;omega
                     case rel=>exact ⟨(y116),(ji17),(wrap64 (x10_1 - 1)),(by first|rfl|(simp;done)|(simp only [←hji17] <;> (first|rfl|simp))|(simp [*];done)),(by first|rfl|(simp;done)|(simp [*];done)),H',⟨by have:=HK1.out;have:=HK2.out;omega⟩,⟨by (with_reducible repeat (first|apply Kd.Ql|apply Kd.Qm|apply Kd.N_drew));exact Kd.N_mono HO_7.out (fun _ hk=>hk.2)⟩,⟨by (with_reducible repeat (first|apply Kd.R_alloc|apply Kd.R_drewN|apply Kd.R_drew));exact HO_8.out⟩,⟨by repeat (first|(with_reducible first|exact HB.out|apply Qc|apply Qa|apply Qb)|exact HB.out)⟩⟩
                    ·rw [if_neg c28] at H;exact absurd H (by simp)
                   ·rw [if_neg c27] at H;have c27b0:((wrap64 ((rd (rd_L2 t102 x10_1) (ji17))+t113)) == (rd (rd_L2 t102 (ji22)) x9_1))=false:=beq_eq_false_iff_ne.mpr c27;have c27b1:((wrap64 ((rd (rd_L2 t102 x10_1) (ji17))+t113)) != (rd (rd_L2 t102 (ji22)) x9_1))=true:=bne_iff_ne.mpr c27;have H':=aM H;clear H
                    try go_wp2
                    have n0_:=aM (Kd.N_drew HO_7.out);have n1_:=aM (Kd.R_drew HO_8.out);have n2_:=aM (Qb HB.out);clear HO_7;clear HO_8;clear HB;have HO_7:=n0_;have HO_8:=n1_;have HB:=n2_;clear n0_ n1_ n2_;obtain ⟨Ao36,co36,eo36⟩:=Kd.N_slice HO_7.out
                    (first|subst eo36|(injection eo36 with f1_ f2_ f3_;have f4_:=f1_.symm;have f5_:=f3_.symm;clear f1_ f2_ f3_;subst f4_;subst f5_))
                    have p110:0≤(x10_1:Int):=of_decide_eq_true (by first|(with_reducible assumption)|assumption);have q110:x10_1<(t102.length:Int):=of_decide_eq_true (by first|(with_reducible assumption)|assumption);obtain ⟨ad110,A110_0,c110_0,e110,hx110_0,hl110_0,hi110_0⟩:=at_L2 (Kd.Qs HO_7.out).2.2 x10_1 p110 q110
                    cases e110
                    obtain ⟨ce110,hce110,hMe110,hcc110⟩:=Kd.N_get HO_7.out [] x10_1 p110 (by first|exact q110|exact of_decide_eq_true (by first|(with_reducible assumption)|assumption)|(have e_:=(Kd.Qs HO_7.out).1;omega));obtain ⟨ua110_0,uc110_0,rfl,ul110_0,ge110_0⟩:=Kd.FK_slice_open hMe110;have hv110_0:=hcc110 0 _ rfl;rw [Nat.add_zero,show ((Kd.slice 3 (Kd.int .i64))).sz=1 from rfl,Nat.mul_one] at hv110_0;replace hv110_0:=Option.some.inj (hv110_0.symm.trans hx110_0)
                    injection hv110_0 with hva_ hvn_ hvc_
                    rw [hva_] at ge110_0;rw [hvc_] at ul110_0;have HL110_0:=aM (show Kd.V (Kd.int .i64) 3 _ w.heap.size _ _ (rd_L2 t102 x10_1) from Kd.V_mk ul110_0 ge110_0);clear hva_ hvn_ hvc_ ge110_0 ul110_0;clear hcc110 hce110;have HR110_0:=aM hi110_0;have HC110_0:=aM hl110_0;clear hi110_0 hl110_0;replace p110:=eq_true p110;replace q110:=eq_true q110;have p111:0≤((ji17):Int):=of_decide_eq_true (by first|(with_reducible assumption)|assumption);have q111:(ji17)<((rd_L2 t102 x10_1).length:Int):=of_decide_eq_true (by first|(with_reducible assumption)|assumption);obtain ⟨ad111,e111,hx111_0⟩:=Kd.at_int (by repeat (first|(with_reducible exact HR110_0.out)|(with_reducible refine Kd.Qj ?_ _)|(with_reducible refine Kd.Qk ?_ _)|(with_reducible refine Kd.C_drew ?_)|exact HR110_0.out)) (ji17) p111 q111
                    cases e111
                    replace p111:=eq_true p111;replace q111:=eq_true q111;have p112:0≤(x10_1:Int):=of_decide_eq_true (by first|(with_reducible assumption)|assumption);have q112:x10_1<(l0.length:Int):=of_decide_eq_true (by first|(with_reducible assumption)|assumption);obtain ⟨ad112,A112_0,c112_0,e112,hx112_0,hl112_0,hi112_0⟩:=at_T53 HR0.out x10_1 p112 q112;have hw112_0:=hx112_0
                    cases e112
                    replace hx112_0:=(HB.out.cell (aI w _ hx112_0)).trans hx112_0;have HR112_0:=aM hi112_0;have HC112_0:=aM hl112_0;clear hi112_0 hl112_0;replace p112:=eq_true p112;replace q112:=eq_true q112;have p114:0≤((ji22):Int):=of_decide_eq_true (by first|(with_reducible assumption)|assumption);have q114:(ji22)<(t102.length:Int):=of_decide_eq_true (by first|(with_reducible assumption)|assumption);obtain ⟨ad114,A114_0,c114_0,e114,hx114_0,hl114_0,hi114_0⟩:=at_L2 (Kd.Qs HO_7.out).2.2 (ji22) p114 q114;obtain rfl:ad110=ad114:=(by injection e114);obtain ⟨ce114,hce114,hMe114,hcc114⟩:=Kd.N_get HO_7.out [] (ji22) p114 (by first|exact q114|exact of_decide_eq_true (by first|(with_reducible assumption)|assumption)|(have e_:=(Kd.Qs HO_7.out).1;omega));obtain ⟨ua114_0,uc114_0,rfl,ul114_0,ge114_0⟩:=Kd.FK_slice_open hMe114;have hv114_0:=hcc114 0 _ rfl;rw [Nat.add_zero,show ((Kd.slice 3 (Kd.int .i64))).sz=1 from rfl,Nat.mul_one] at hv114_0;replace hv114_0:=Option.some.inj (hv114_0.symm.trans hx114_0)
                    injection hv114_0 with hva_ hvn_ hvc_
                    rw [hva_] at ge114_0;rw [hvc_] at ul114_0;have HL114_0:=aM (show Kd.V (Kd.int .i64) 3 _ w.heap.size _ _ (rd_L2 t102 (ji22)) from Kd.V_mk ul114_0 ge114_0);clear hva_ hvn_ hvc_ ge114_0 ul114_0;clear hcc114 hce114;have HR114_0:=aM hi114_0;have HC114_0:=aM hl114_0;clear hi114_0 hl114_0;replace p114:=eq_true p114;replace q114:=eq_true q114;have p115:0≤(x9_1:Int):=of_decide_eq_true (by first|(with_reducible assumption)|assumption);have q115:x9_1<((rd_L2 t102 (ji22)).length:Int):=of_decide_eq_true (by first|(with_reducible assumption)|assumption);obtain ⟨ad115,e115,hx115_0⟩:=Kd.at_int (by repeat (first|(with_reducible exact HR114_0.out)|(with_reducible refine Kd.Qj ?_ _)|(with_reducible refine Kd.Qk ?_ _)|(with_reducible refine Kd.C_drew ?_)|exact HR114_0.out)) x9_1 p115 q115
                    cases e115
                    replace p115:=eq_true p115;replace q115:=eq_true q115;refine start_ (n:=25) (S:=fun w'=>w'.cell? (ad110.add (x10_1).toNat)=some (.slice (some ad111) (rd_L2 t102 x10_1).length c110_0)∧w'.cell? (ad111.add ((ji17)).toNat)=some (.int .i64 (rd (rd_L2 t102 x10_1) (ji17)))∧w'.cell? (ad112.add (x10_1).toNat)=some (.slice A112_0 ((rd_T53 l0 x10_1).f0).length c112_0)∧w'.cell? (ad110.add ((ji22)).toNat)=some (.slice (some ad115) (rd_L2 t102 (ji22)).length c114_0)∧w'.cell? (ad115.add (x9_1).toNat)=some (.int .i64 (rd (rd_L2 t102 (ji22)) x9_1))) (ds:=[]) #[false,false,false,false,false,false,false,false,false,false,false,false,false,false,false,false,false,false,false,false,false,false,false,false,false] (by kernel_rfl) rfl rfl ⟨hx110_0,hx111_0,((HB.out.cell (aI w _ hw112_0)).trans hw112_0),hx114_0,hx115_0⟩ (fun hHeld=>?_);refine with_tabW impl_BestChoice.tab8 impl_BestChoice.bits8 (fun HT_ HW_=>?_)
                    generalize wr.drew=w35 at HO_7 HO_8 HB HL110_0 HL114_0 HR110_0 HR112_0 HR114_0 hx110_0 hx111_0 hx112_0 hx114_0 hx115_0 hHeld ⊢
                    refine pure_ (i:=0) (N:=some 30) (v:=?_) (a':=?_) #[true,false,false,false,false,false,false,false,false,false,false,false,false,false,false,false,false,false,false,false,false,false,false,false,false] rfl rfl (any_of HT_.out (by kernel_rfl)) (fun _ _ _ h=>h) (Or.inl ⟨by rfl,?_⟩) ?_ ?_
                    rotate_left
                    ·intro w'
                     go_simp
                     with_reducible rfl
                    rotate_left
                    ·simp only [Act.put,aA,aB,aC,i64_w,i32_w]
                     rfl
                    refine pure_ (i:=1) (N:=some 31) (v:=?_) (a':=?_) #[true,true,false,false,false,false,false,false,false,false,false,false,false,false,false,false,false,false,false,false,false,false,false,false,false] rfl rfl (any_of HT_.out (by kernel_rfl)) (fun _ _ _ h=>h) (Or.inl ⟨by rfl,?_⟩) ?_ ?_
                    rotate_left
                    ·intro w'
                     go_simp
                     with_reducible rfl
                    rotate_left
                    ·simp only [Act.put,aA,aB,aC,i64_w,i32_w]
                     rfl
                    refine pure_ (i:=2) (N:=some 32) (v:=?_) (a':=?_) #[true,true,true,false,false,false,false,false,false,false,false,false,false,false,false,false,false,false,false,false,false,false,false,false,false] rfl rfl (any_of HT_.out (by kernel_rfl)) (fun _ _ _ h=>h) (Or.inl ⟨by rfl,?_⟩) ?_ ?_
                    rotate_left
                    ·intro w'
                     go_simp
                     with_reducible rfl
                    rotate_left
                    ·simp only [Act.put,aA,aB,aC,i64_w,i32_w]
                     rfl
                    refine pure_ (i:=4) (N:=some 34) (v:=?_) (a':=?_) #[true,true,true,false,true,false,false,false,false,false,false,false,false,false,false,false,false,false,false,false,false,false,false,false,false] rfl rfl (any_of HT_.out (by kernel_rfl)) (fun _ _ _ h=>h) (Or.inl ⟨by rfl,?_⟩) ?_ ?_
                    rotate_left
                    ·intro w'
                     go_simp
                     with_reducible rfl
                    rotate_left
                    ·simp only [Act.put,aA,aB,aC,i64_w,i32_w]
                     rfl
                    refine pure_ (i:=5) (N:=some 35) (v:=?_) (a':=?_) #[true,true,true,false,true,true,false,false,false,false,false,false,false,false,false,false,false,false,false,false,false,false,false,false,false] rfl rfl (any_of HT_.out (by kernel_rfl)) (fun _ _ _ h=>h) (Or.inl ⟨by rfl,?_⟩) ?_ ?_
                    rotate_left
                    ·intro w'
                     go_simp
                     with_reducible rfl
                    rotate_left
                    ·simp only [Act.put,aA,aB,aC,i64_w,i32_w]
                     rfl
                    refine pure_ (i:=6) (N:=some 36) (v:=?_) (a':=?_) #[true,true,true,false,true,true,true,false,false,false,false,false,false,false,false,false,false,false,false,false,false,false,false,false,false] rfl rfl (any_of HT_.out (by kernel_rfl)) (fun _ _ _ h=>h) (Or.inl ⟨by rfl,?_⟩) ?_ ?_
                    rotate_left
                    ·intro w'
                     go_simp
                     with_reducible rfl
                    rotate_left
                    ·simp only [Act.put,aA,aB,aC,i64_w,i32_w]
                     rfl
                    refine pure_ (i:=9) (N:=some 39) (v:=?_) (a':=?_) #[true,true,true,false,true,true,true,false,false,true,false,false,false,false,false,false,false,false,false,false,false,false,false,false,false] rfl rfl (any_of HT_.out (by kernel_rfl)) (fun _ _ _ h=>h) (Or.inl ⟨by rfl,?_⟩) ?_ ?_
                    rotate_left
                    ·intro w'
                     go_simp
                     with_reducible rfl
                    rotate_left
                    ·simp only [Act.put,aA,aB,aC,i64_w,i32_w]
                     rfl
                    refine pure_ (i:=10) (N:=some 40) (v:=?_) (a':=?_) #[true,true,true,false,true,true,true,false,false,true,true,false,false,false,false,false,false,false,false,false,false,false,false,false,false] rfl rfl (any_of HT_.out (by kernel_rfl)) (fun _ _ _ h=>h) (Or.inl ⟨by rfl,?_⟩) ?_ ?_
                    rotate_left
                    ·intro w'
                     go_simp
                     with_reducible rfl
                    rotate_left
                    ·simp only [Act.put,aA,aB,aC,i64_w,i32_w]
                     rfl
                    refine pure_ (i:=11) (N:=some 41) (v:=?_) (a':=?_) #[true,true,true,false,true,true,true,false,false,true,true,true,false,false,false,false,false,false,false,false,false,false,false,false,false] rfl rfl (any_of HT_.out (by kernel_rfl)) (fun _ _ _ h=>h) (Or.inl ⟨by rfl,?_⟩) ?_ ?_
                    rotate_left
                    ·intro w'
                     go_simp
                     with_reducible rfl
                    rotate_left
                    ·simp only [Act.put,aA,aB,aC,i64_w,i32_w]
                     rfl
                    refine pure_ (i:=13) (N:=some 43) (v:=?_) (a':=?_) #[true,true,true,false,true,true,true,false,false,true,true,true,false,true,false,false,false,false,false,false,false,false,false,false,false] rfl rfl (any_of HT_.out (by kernel_rfl)) (fun _ _ _ h=>h) (Or.inl ⟨by rfl,?_⟩) ?_ ?_
                    rotate_left
                    ·intro w'
                     go_simp
                     with_reducible rfl
                    rotate_left
                    ·simp only [Act.put,aA,aB,aC,i64_w,i32_w]
                     rfl
                    refine pure_ (i:=16) (N:=some 46) (v:=?_) (a':=?_) #[true,true,true,false,true,true,true,false,false,true,true,true,false,true,false,false,true,false,false,false,false,false,false,false,false] rfl rfl (any_of HT_.out (by kernel_rfl)) (fun _ _ _ h=>h) (Or.inl ⟨by rfl,?_⟩) ?_ ?_
                    rotate_left
                    ·intro w'
                     go_simp
                     with_reducible rfl
                    rotate_left
                    ·simp only [Act.put,aA,aB,aC,i64_w,i32_w]
                     rfl
                    refine pure_ (i:=17) (N:=some 47) (v:=?_) (a':=?_) #[true,true,true,false,true,true,true,false,false,true,true,true,false,true,false,false,true,true,false,false,false,false,false,false,false] rfl rfl (any_of HT_.out (by kernel_rfl)) (fun _ _ _ h=>h) (Or.inl ⟨by rfl,?_⟩) ?_ ?_
                    rotate_left
                    ·intro w'
                     go_simp
                     with_reducible rfl
                    rotate_left
                    ·simp only [Act.put,aA,aB,aC,i64_w,i32_w]
                     rfl
                    refine pure_ (i:=18) (N:=some 48) (v:=?_) (a':=?_) #[true,true,true,false,true,true,true,false,false,true,true,true,false,true,false,false,true,true,true,false,false,false,false,false,false] rfl rfl (any_of HT_.out (by kernel_rfl)) (fun _ _ _ h=>h) (Or.inl ⟨by rfl,?_⟩) ?_ ?_
                    rotate_left
                    ·intro w'
                     go_simp
                     with_reducible rfl
                    rotate_left
                    ·simp only [Act.put,aA,aB,aC,i64_w,i32_w]
                     rfl
                    refine pure_ (i:=19) (N:=some 49) (v:=?_) (a':=?_) #[true,true,true,false,true,true,true,false,false,true,true,true,false,true,false,false,true,true,true,true,false,false,false,false,false] rfl rfl (any_of HT_.out (by kernel_rfl)) (fun _ _ _ h=>h) (Or.inl ⟨by rfl,?_⟩) ?_ ?_
                    rotate_left
                    ·intro w'
                     go_simp
                     with_reducible rfl
                    rotate_left
                    ·simp only [Act.put,aA,aB,aC,i64_w,i32_w]
                     rfl
                    refine pure_ (i:=21) (N:=some 51) (v:=?_) (a':=?_) #[true,true,true,false,true,true,true,false,false,true,true,true,false,true,false,false,true,true,true,true,false,true,false,false,false] rfl rfl (any_of HT_.out (by kernel_rfl)) (fun _ _ _ h=>h) (Or.inl ⟨by rfl,?_⟩) ?_ ?_
                    rotate_left
                    ·intro w'
                     go_simp
                     with_reducible rfl
                    rotate_left
                    ·simp only [Act.put,aA,aB,aC,i64_w,i32_w]
                     rfl
                    refine take_ (i:=3) (N:=some 33) (v:=?_) (a':=?_) #[true,true,true,true,true,true,true,false,false,true,true,true,false,true,false,false,true,true,true,true,false,true,false,false,false] rfl rfl (take_ofW HT_.out HW_.out (by kernel_rfl)) (fun _ _ _ h=>h) (Or.inl ⟨by rfl,?_⟩) hHeld ?_ ?_
                    rotate_left
                    ·rintro w' ⟨s0,s1,s2,s3,s4⟩
                     go_simp
                     with_reducible rfl
                    rotate_left
                    ·simp only [Act.put,aA,aB,aC,i64_w,i32_w]
                     rfl
                    refine pure_ (i:=7) (N:=some 37) (v:=?_) (a':=?_) #[true,true,true,true,true,true,true,true,false,true,true,true,false,true,false,false,true,true,true,true,false,true,false,false,false] rfl rfl (any_of HT_.out (by kernel_rfl)) (fun _ _ _ h=>h) (Or.inl ⟨by rfl,?_⟩) ?_ ?_
                    rotate_left
                    ·intro w'
                     go_simp
                     with_reducible rfl
                    rotate_left
                    ·simp only [Act.put,aA,aB,aC,i64_w,i32_w]
                     rfl
                    refine take_ (i:=8) (N:=some 38) (v:=?_) (a':=?_) #[true,true,true,true,true,true,true,true,true,true,true,true,false,true,false,false,true,true,true,true,false,true,false,false,false] rfl rfl (take_ofW HT_.out HW_.out (by kernel_rfl)) (fun _ _ _ h=>h) (Or.inl ⟨by rfl,?_⟩) hHeld ?_ ?_
                    rotate_left
                    ·rintro w' ⟨s0,s1,s2,s3,s4⟩
                     go_simp
                     with_reducible rfl
                    rotate_left
                    ·simp only [Act.put,aA,aB,aC,i64_w,i32_w]
                     rfl
                    refine take_ (i:=12) (N:=some 42) (v:=?_) (a':=?_) #[true,true,true,true,true,true,true,true,true,true,true,true,true,true,false,false,true,true,true,true,false,true,false,false,false] rfl rfl (take_ofW HT_.out HW_.out (by kernel_rfl)) (fun _ _ _ h=>h) (Or.inl ⟨by rfl,?_⟩) hHeld ?_ ?_
                    rotate_left
                    ·rintro w' ⟨s0,s1,s2,s3,s4⟩
                     go_simp
                     with_reducible rfl
                    rotate_left
                    ·simp only [Act.put,aA,aB,aC,i64_w,i32_w]
                     rfl
                    refine take_ (i:=20) (N:=some 50) (v:=?_) (a':=?_) #[true,true,true,true,true,true,true,true,true,true,true,true,true,true,false,false,true,true,true,true,true,true,false,false,false] rfl rfl (take_ofW HT_.out HW_.out (by kernel_rfl)) (fun _ _ _ h=>h) (Or.inl ⟨by rfl,?_⟩) hHeld ?_ ?_
                    rotate_left
                    ·rintro w' ⟨s0,s1,s2,s3,s4⟩
                     go_simp
                     with_reducible rfl
                    rotate_left
                    ·simp only [Act.put,aA,aB,aC,i64_w,i32_w]
                     rfl
                    refine pure_ (i:=22) (N:=some 52) (v:=?_) (a':=?_) #[true,true,true,true,true,true,true,true,true,true,true,true,true,true,false,false,true,true,true,true,true,true,true,false,false] rfl rfl (any_of HT_.out (by kernel_rfl)) (fun _ _ _ h=>h) (Or.inl ⟨by rfl,?_⟩) ?_ ?_
                    rotate_left
                    ·intro w'
                     go_simp
                     with_reducible rfl
                    rotate_left
                    ·simp only [Act.put,aA,aB,aC,i64_w,i32_w]
                     rfl
                    refine take_ (i:=23) (N:=some 53) (v:=?_) (a':=?_) #[true,true,true,true,true,true,true,true,true,true,true,true,true,true,false,false,true,true,true,true,true,true,true,true,false] rfl rfl (take_ofW HT_.out HW_.out (by kernel_rfl)) (fun _ _ _ h=>h) (Or.inl ⟨by rfl,?_⟩) hHeld ?_ ?_
                    rotate_left
                    ·rintro w' ⟨s0,s1,s2,s3,s4⟩
                     go_simp
                     with_reducible rfl
                    rotate_left
                    ·simp only [Act.put,aA,aB,aC,i64_w,i32_w]
                     rfl
                    refine one_ (i:=14) (N:=some 44) #[true,true,true,true,true,true,true,true,true,true,true,true,true,true,true,false,true,true,true,true,true,true,true,true,false] rfl rfl (one_of HT_.out (by kernel_rfl)) (by decide) (fun K hK=>?_)
                    first|(refine goes_ Try.func144 (by kernel_rfl) rfl #[.agg #[.slice A112_0 ((rd_T53 l0 x10_1).f0).length c112_0],.int .i64 x11_2] (by rfl) rfl rfl (by (try simp only [aD,aE,aF]);first|done|rfl|(simp only [aG,aH];rfl)) ?_)|(refine call_ 144 #[.agg #[.slice A112_0 ((rd_T53 l0 x10_1).f0).length c112_0],.int .i64 x11_2] (by rfl) rfl (by unfold execOp;simp [resolve,Deferred.ofValue,invoke,Act.eval,enters_ Try.func144 (by kernel_rfl) rfl]) ?_)
                    with_reducible refine (impl_Offer_gain.calls _ _ ((rd_T53 l0 x10_1).f0) x11_2 t113 _ ?side1 ?side2 A21.out).mono ?_
                    (case side1=>repeat (first|exact (Kd.C_below HR112_0.out HB.out)|(with_reducible refine Kd.Qj ?_ _)|(with_reducible refine Kd.Qk ?_ _)|(with_reducible refine Kd.C_drew ?_)))
                    (case side2=>exact HC112_0.out)
                    rintro e w37 ⟨rfl,hb⟩
                    have HS0_:=(hb.cell (aI _ _ (hHeld.1))).trans (hHeld.1);have HS1_:=(hb.cell (aI _ _ (hHeld.2.1))).trans (hHeld.2.1);have HS3_:=(hb.cell (aI _ _ (hHeld.2.2.2.1))).trans (hHeld.2.2.2.1);have HS4_:=(hb.cell (aI _ _ (hHeld.2.2.2.2))).trans (hHeld.2.2.2.2);refine ⟨_,rfl,?_⟩;have n0_:=aM (Kd.N_below (by (with_reducible repeat (first|apply Kd.Ql|apply Kd.Qm|apply Kd.N_drew));exact HO_7.out) hb);have n1_:=aM (Kd.R_below (by (with_reducible repeat (first|apply Kd.R_alloc|apply Kd.R_drewN|apply Kd.R_drew));exact HO_8.out) hb);have n2_:=aM (Kd.V_below (by (with_reducible repeat (first|apply Kd.V_alloc|apply Kd.V_drewN|apply Kd.V_drew));exact HL110_0.out) hb);have n3_:=aM (Kd.V_below (by (with_reducible repeat (first|apply Kd.V_alloc|apply Kd.V_drewN|apply Kd.V_drew));exact HL114_0.out) hb);have n4_:=aM (Kd.C_below (by repeat (first|(with_reducible exact HR110_0.out)|(with_reducible refine Kd.Qj ?_ _)|(with_reducible refine Kd.Qk ?_ _)|(with_reducible refine Kd.C_drew ?_)|exact HR110_0.out)) hb);have n5_:=aM (Kd.C_below (by repeat (first|(with_reducible exact HR114_0.out)|(with_reducible refine Kd.Qj ?_ _)|(with_reducible refine Kd.Qk ?_ _)|(with_reducible refine Kd.C_drew ?_)|exact HR114_0.out)) hb);have n6_:=aM (Qi (by repeat (first|(with_reducible first|exact HB.out|apply Qc|apply Qa|apply Qb)|exact HB.out)) hb);clear HO_7;clear HO_8;clear HL110_0;clear HL114_0;clear HR110_0;clear HR114_0;clear HB;have HO_7:=n0_;have HO_8:=n1_;have HL110_0:=n2_;have HL114_0:=n3_;have HR110_0:=n4_;have HR114_0:=n5_;have HB:=n6_;clear n0_ n1_ n2_ n3_ n4_ n5_ n6_;(try clear hb);(try clear hb2);(try clear hk);(try clear hi);refine hK.out _ _ ⟨HS0_,HS1_,((HB.out.cell (aI w _ hw112_0)).trans hw112_0),HS3_,HS4_⟩ (fun hHeld=>?_);clear hK K;refine norm_ (a':=?_) ?_ ?_
                    rotate_left
                    ·show Act.put _ (some 44) _=_
                     simp only [Act.put,aA,aB,aC,i64_w,i32_w]
                     rfl
                    refine pure_ (i:=15) (N:=some 45) (v:=?_) (a':=?_) #[true,true,true,true,true,true,true,true,true,true,true,true,true,true,true,true,true,true,true,true,true,true,true,true,false] rfl rfl (any_of HT_.out (by kernel_rfl)) (fun _ _ _ h=>h) (Or.inl ⟨by rfl,?_⟩) ?_ ?_
                    rotate_left
                    ·intro w'
                     go_simp
                     with_reducible rfl
                    rotate_left
                    ·simp only [Act.put,aA,aB,aC,i64_w,i32_w]
                     rfl
                    refine pure_ (i:=24) (N:=some 54) (v:=?_) (a':=?_) #[true,true,true,true,true,true,true,true,true,true,true,true,true,true,true,true,true,true,true,true,true,true,true,true,true] rfl rfl (any_of HT_.out (by kernel_rfl)) (fun _ _ _ h=>h) (Or.inl ⟨by rfl,?_⟩) ?_ ?_
                    rotate_left
                    ·intro w'
                     go_simp
                     with_reducible rfl
                    rotate_left
                    ·simp only [Act.put,aA,aB,aC,i64_w,i32_w]
                     rfl
                    refine done_ (done_of HT_.out (by kernel_rfl)) ?_
                    try go_wp2
                    go_roundg k2
                    case measure=>have:=HK1.out;have:=HK2.out;omega
                    case rel=>exact ⟨(wrap64 (x11_2+1)),(by first|rfl|(simp;done)|(simp [*];done)),H',⟨by have:=HK1.out;have:=HK2.out;omega⟩,⟨by (with_reducible repeat (first|apply Kd.Ql|apply Kd.Qm|apply Kd.N_drew));exact HO_7.out⟩,⟨by (with_reducible repeat (first|apply Kd.R_alloc|apply Kd.R_drewN|apply Kd.R_drew));exact HO_8.out⟩,⟨by repeat (first|(with_reducible first|exact HB.out|apply Qc|apply Qa|apply Qb)|exact HB.out)⟩⟩
                  ·rw [if_neg c26] at H;exact absurd H (by simp)
                 ·rw [if_neg c25] at H;exact absurd H (by simp)
                ·rw [if_neg c24] at H;exact absurd H (by simp)
               ·rw [if_neg c23] at H;exact absurd H (by simp)
              ·rw [if_neg c20] at H;exact absurd H (by simp)
             ·rw [if_neg c19] at H;exact absurd H (by simp)
            ·rw [if_neg c18] at H;exact absurd H (by simp)
           ·rw [if_neg c16] at H;exact absurd H (by simp)
          ·rw [if_neg c15] at H;exact absurd H (by simp)
       ·rw [if_neg c14] at H;have c14b0:decide (0≤x10_1)=false:=decide_eq_false c14;clear c14;by_cases c38:0≤(l0.length:Int)
        ·rw [if_pos c38] at H;have c38b0:decide (0≤(l0.length:Int))=true:=decide_eq_true c38;have c38b1:decide (0≤l0.length)=true:=decide_eq_true (by omega);clear c38;by_cases c39:(l0.length:Int)<(t102.length:Int)
         ·rw [if_pos c39] at H;have c39b0:decide ((l0.length:Int)<(t102.length:Int))=true:=decide_eq_true c39;have c39b1:decide (l0.length<t102.length)=true:=decide_eq_true (Int.ofNat_lt.mp c39);clear c39;by_cases c40:0≤a1
          ·rw [if_pos c40] at H;have c40b0:decide (0≤a1)=true:=decide_eq_true c40;clear c40;by_cases c41:a1<((rd_L2 t102 (l0.length:Int)).length:Int)
           ·rw [if_pos c41] at H;have c41b0:decide (a1<((rd_L2 t102 (l0.length:Int)).length:Int))=true:=decide_eq_true c41;clear c41;simp only [Option.some.injEq,Prod.mk.injEq] at H;obtain ⟨rfl,rfl,rfl⟩:=H
            try go_wp2
            have n0_:=aM (Kd.N_drew HO_7.out);have n1_:=aM (Kd.R_drew HO_8.out);have n2_:=aM (Qb HB.out);clear HO_7;clear HO_8;clear HB;have HO_7:=n0_;have HO_8:=n1_;have HB:=n2_;clear n0_ n1_ n2_;obtain ⟨Ao43,co43,eo43⟩:=Kd.N_slice HO_7.out
            (first|subst eo43|(injection eo43 with f1_ f2_ f3_;have f4_:=f1_.symm;have f5_:=f3_.symm;clear f1_ f2_ f3_;subst f4_;subst f5_))
            have p108:0≤((l0.length:Int):Int):=of_decide_eq_true (by first|(with_reducible assumption)|assumption);have q108:(l0.length:Int)<(t102.length:Int):=of_decide_eq_true (by first|(with_reducible assumption)|assumption);obtain ⟨ad108,A108_0,c108_0,e108,hx108_0,hl108_0,hi108_0⟩:=at_L2 (Kd.Qs HO_7.out).2.2 (l0.length:Int) p108 q108
            cases e108
            obtain ⟨ce108,hce108,hMe108,hcc108⟩:=Kd.N_get HO_7.out [] (l0.length:Int) p108 (by first|exact q108|exact of_decide_eq_true (by first|(with_reducible assumption)|assumption)|(have e_:=(Kd.Qs HO_7.out).1;omega));obtain ⟨ua108_0,uc108_0,rfl,ul108_0,ge108_0⟩:=Kd.FK_slice_open hMe108;have hv108_0:=hcc108 0 _ rfl;rw [Nat.add_zero,show ((Kd.slice 3 (Kd.int .i64))).sz=1 from rfl,Nat.mul_one] at hv108_0;replace hv108_0:=Option.some.inj (hv108_0.symm.trans hx108_0)
            injection hv108_0 with hva_ hvn_ hvc_
            rw [hva_] at ge108_0;rw [hvc_] at ul108_0;have HL108_0:=aM (show Kd.V (Kd.int .i64) 3 _ w.heap.size _ _ (rd_L2 t102 (l0.length:Int)) from Kd.V_mk ul108_0 ge108_0);clear hva_ hvn_ hvc_ ge108_0 ul108_0;clear hcc108 hce108;have HR108_0:=aM hi108_0;have HC108_0:=aM hl108_0;clear hi108_0 hl108_0;(try simp only [Go.IntWalk.toNatUp] at hx108_0);replace p108:=eq_true p108;replace q108:=eq_true q108;have p109:0≤(a1:Int):=of_decide_eq_true (by first|(with_reducible assumption)|assumption);have q109:a1<((rd_L2 t102 (l0.length:Int)).length:Int):=of_decide_eq_true (by first|(with_reducible assumption)|assumption);obtain ⟨ad109,e109,hx109_0⟩:=Kd.at_int (by repeat (first|(with_reducible exact HR108_0.out)|(with_reducible refine Kd.Qj ?_ _)|(with_reducible refine Kd.Qk ?_ _)|(with_reducible refine Kd.C_drew ?_)|exact HR108_0.out)) a1 p109 q109
            cases e109
            replace p109:=eq_true p109;replace q109:=eq_true q109;refine start_ (n:=12) (S:=fun w'=>w'.cell? (ad108.add l0.length)=some (.slice (some ad109) (rd_L2 t102 (l0.length:Int)).length c108_0)∧w'.cell? (ad109.add (a1).toNat)=some (.int .i64 (rd (rd_L2 t102 (l0.length:Int)) a1))) (ds:=[]) #[false,false,false,false,false,false,false,false,false,false,false,false] (by kernel_rfl) rfl rfl ⟨hx108_0,hx109_0⟩ (fun hHeld=>?_);refine with_tabW impl_BestChoice.tab12 impl_BestChoice.bits12 (fun HT_ HW_=>?_)
            generalize wr.drew=w42 at HO_7 HO_8 HB HL108_0 HR108_0 hx108_0 hx109_0 hHeld ⊢
            refine pure_ (i:=0) (N:=some 64) (v:=?_) (a':=?_) #[true,false,false,false,false,false,false,false,false,false,false,false] rfl rfl (any_of HT_.out (by kernel_rfl)) (fun _ _ _ h=>h) (Or.inl ⟨by rfl,?_⟩) ?_ ?_
            rotate_left
            ·intro w'
             go_simp
             with_reducible rfl
            rotate_left
            ·simp only [Act.put,aA,aB,aC,i64_w,i32_w]
             rfl
            refine pure_ (i:=1) (N:=some 65) (v:=?_) (a':=?_) #[true,true,false,false,false,false,false,false,false,false,false,false] rfl rfl (any_of HT_.out (by kernel_rfl)) (fun _ _ _ h=>h) (Or.inl ⟨by rfl,?_⟩) ?_ ?_
            rotate_left
            ·intro w'
             go_simp
             with_reducible rfl
            rotate_left
            ·simp only [Act.put,aA,aB,aC,i64_w,i32_w]
             rfl
            refine pure_ (i:=2) (N:=some 66) (v:=?_) (a':=?_) #[true,true,true,false,false,false,false,false,false,false,false,false] rfl rfl (any_of HT_.out (by kernel_rfl)) (fun _ _ _ h=>h) (Or.inl ⟨by rfl,?_⟩) ?_ ?_
            rotate_left
            ·intro w'
             go_simp
             with_reducible rfl
            rotate_left
            ·simp only [Act.put,aA,aB,aC,i64_w,i32_w]
             rfl
            refine pure_ (i:=3) (N:=some 67) (v:=?_) (a':=?_) #[true,true,true,true,false,false,false,false,false,false,false,false] rfl rfl (any_of HT_.out (by kernel_rfl)) (fun _ _ _ h=>h) (Or.inl ⟨by rfl,?_⟩) ?_ ?_
            rotate_left
            ·intro w'
             go_simp
             with_reducible rfl
            rotate_left
            ·simp only [Act.put,aA,aB,aC,i64_w,i32_w]
             rfl
            refine pure_ (i:=4) (N:=some 68) (v:=?_) (a':=?_) #[true,true,true,true,true,false,false,false,false,false,false,false] rfl rfl (any_of HT_.out (by kernel_rfl)) (fun _ _ _ h=>h) (Or.inl ⟨by rfl,?_⟩) ?_ ?_
            rotate_left
            ·intro w'
             go_simp
             with_reducible rfl
            rotate_left
            ·simp only [Act.put,aA,aB,aC,i64_w,i32_w]
             rfl
            refine pure_ (i:=6) (N:=some 70) (v:=?_) (a':=?_) #[true,true,true,true,true,false,true,false,false,false,false,false] rfl rfl (any_of HT_.out (by kernel_rfl)) (fun _ _ _ h=>h) (Or.inl ⟨by rfl,?_⟩) ?_ ?_
            rotate_left
            ·intro w'
             go_simp
             with_reducible rfl
            rotate_left
            ·simp only [Act.put,aA,aB,aC,i64_w,i32_w]
             rfl
            refine pure_ (i:=9) (N:=some 4) (v:=?_) (a':=?_) #[true,true,true,true,true,false,true,false,false,true,false,false] rfl rfl (any_of HT_.out (by kernel_rfl)) (fun _ _ _ h=>h) (Or.inl ⟨by rfl,?_⟩) ?_ ?_
            rotate_left
            ·intro w'
             go_simp
             with_reducible rfl
            rotate_left
            ·simp only [Act.put,aA,aB,aC,i64_w,i32_w]
             rfl
            refine take_ (i:=5) (N:=some 69) (v:=?_) (a':=?_) #[true,true,true,true,true,true,true,false,false,true,false,false] rfl rfl (take_ofW HT_.out HW_.out (by kernel_rfl)) (fun _ _ _ h=>h) (Or.inl ⟨by rfl,?_⟩) hHeld ?_ ?_
            rotate_left
            ·rintro w' ⟨s0,s1⟩
             go_simp
             with_reducible rfl
            rotate_left
            ·simp only [Act.put,aA,aB,aC,i64_w,i32_w]
             rfl
            refine pure_ (i:=7) (N:=some 71) (v:=?_) (a':=?_) #[true,true,true,true,true,true,true,true,false,true,false,false] rfl rfl (any_of HT_.out (by kernel_rfl)) (fun _ _ _ h=>h) (Or.inl ⟨by rfl,?_⟩) ?_ ?_
            rotate_left
            ·intro w'
             go_simp
             with_reducible rfl
            rotate_left
            ·simp only [Act.put,aA,aB,aC,i64_w,i32_w]
             rfl
            refine take_ (i:=8) (N:=some 72) (v:=?_) (a':=?_) #[true,true,true,true,true,true,true,true,true,true,false,false] rfl rfl (take_ofW HT_.out HW_.out (by kernel_rfl)) (fun _ _ _ h=>h) (Or.inl ⟨by rfl,?_⟩) hHeld ?_ ?_
            rotate_left
            ·rintro w' ⟨s0,s1⟩
             go_simp
             with_reducible rfl
            rotate_left
            ·simp only [Act.put,aA,aB,aC,i64_w,i32_w]
             rfl
            refine pure_ (i:=10) (N:=some 5) (v:=?_) (a':=?_) #[true,true,true,true,true,true,true,true,true,true,true,false] rfl rfl (any_of HT_.out (by kernel_rfl)) (fun _ _ _ h=>h) (Or.inl ⟨by rfl,?_⟩) ?_ ?_
            rotate_left
            ·intro w'
             go_simp
             with_reducible rfl
            rotate_left
            ·simp only [Act.put,aA,aB,aC,i64_w,i32_w]
             rfl
            refine pure_ (i:=11) (N:=some 6) (v:=?_) (a':=?_) #[true,true,true,true,true,true,true,true,true,true,true,true] rfl rfl (any_of HT_.out (by kernel_rfl)) (fun _ _ _ h=>h) (Or.inl ⟨by rfl,?_⟩) ?_ ?_
            rotate_left
            ·intro w'
             go_simp
             with_reducible rfl
            rotate_left
            ·simp only [Act.put,aA,aB,aC,i64_w,i32_w]
             rfl
            refine done_ (done_of HT_.out (by kernel_rfl)) ?_
            try go_wp2
            go_ret3
            exact ⟨_,by first|rfl|(simp [errW_none,errW_some] <;> rfl)|(simp [*,errW_none,errW_some] <;> rfl),by (with_reducible repeat (first|apply Kd.R_alloc|apply Kd.R_drewN|apply Kd.R_drew));exact HO_8.out,by repeat (first|(with_reducible first|exact HB.out|apply Qc|apply Qa|apply Qb)|exact HB.out)⟩
           ·rw [if_neg c41] at H;exact absurd H (by simp)
          ·rw [if_neg c40] at H;exact absurd H (by simp)
         ·rw [if_neg c39] at H;exact absurd H (by simp)
        ·rw [if_neg c38] at H;exact absurd H (by simp)
    ·rw [if_neg c7] at H;exact absurd H (by simp)
   ·rw [if_neg c6] at H;exact absurd H (by simp)
  ·replace c4:=Bool.eq_false_iff.mpr c4;subst c4;have H1:(some (([]:List Int),0,false))=some (r1,r2,r3):=by rw [if_neg (show ¬ (false=true) by decide)] at H;exact H
   clear H;have H:=H1;clear H1;simp only [Option.some.injEq,Prod.mk.injEq] at H;obtain ⟨rfl,rfl,rfl⟩:=H;go_enter Try.func40,Try.ntmps40;go_wp2_with (first|((with_reducible refine Qn (f:=140) rfl ?_);refine goesL_ (some 14) rfl rfl Try.func140 (by kernel_rfl) rfl #[.slice A0 l0.length c0,.int .i64 a1] rfl (by (try simp only [aD,aE,aF]);first|done|rfl|(simp only [aG,aH];rfl)) ?_;(with_reducible refine (impl_isOffered.calls k _ _ l0 a1 false _ ?side1 ?side2 A3.out).mono ?_);(case side1=>repeat (first|exact HR0.out|(with_reducible refine Kd.Qj ?_ _)|(with_reducible refine Kd.Qk ?_ _)|(with_reducible refine Kd.C_drew ?_)));(case side2=>exact HC0.out);rintro e w44 ⟨rfl,hb⟩;refine ⟨_,rfl,?_⟩;have n0_:=aM (Qi (by repeat (first|(with_reducible first|exact HB.out|apply Qc|apply Qa|apply Qb)|exact HB.out)) hb);clear HB;have HB:=n0_;clear n0_;(try clear hb);(try clear hb2);(try clear hk);(try clear hi)))
   go_ret3
   exact ⟨_,by first|rfl|(simp [errW_none,errW_some] <;> rfl)|(simp [*,errW_none,errW_some] <;> rfl),by first|exact Kd.R_nil _ _ _ _ _|exact Kd.N_nil _ _ _ _ _|exact Kd.V_nil _ _ _ _ _|exact Kd.Q_nil _ _ _ _ _|exact Kd.S_nil _ _ _ _ _,by repeat (first|(with_reducible first|exact HB.out|apply Qc|apply Qa|apply Qb)|exact HB.out)⟩

def spec_DrawDropOffer.f (k:Nat) (l0:List Int):Option ((List (S53))×Int×Int):=(spec_l1Cur_offers.f k l0 0 0).bind fun bt102=>((spec_l1Cur_pick.f l0 bt102.2.1 bt102.2.2 (wrap64 ((bt102.1.length:Int)+2))).bind fun bt107=>((spec_l1Cur_fewPlaces.f l0 bt107.2.1 bt107.2.2).bind fun bt110=>(some (bt102.1,wrap64 (bt107.1 - 1),bt110.1))))
set_option maxHeartbeats 8000000 in
set_option maxRecDepth 100000 in
theorem spec_DrawDropOffer.calls (k:Nat) (A0:Option Addr) (c0:Nat) (l0:List Int) (r1:List (S53)) (r2:Int) (r3:Int) (w:World) (hr0:Kd.C (Kd.int .u8) w A0 l0.length l0) (hc0:l0.length≤c0) (h:spec_DrawDropOffer.f k l0=some (r1,r2,r3)) :
    Calls Try.prog 41 #[.slice A0 l0.length c0] w fun e w'=>∃ v0_:Value,e= .returned (.tuple #[v0_,.int .i64 r2,.int .i64 r3])∧Kd.S k53 53 w' w.heap.size (fun _=>True) v0_ r1∧Below w.heap.size w w':=by
  have hu117:=Try.underlying117;have HR0:=aM hr0;have HC0:=aM hc0;clear hr0 hc0;have HB:=aM (Below.refl w.heap.size w);have H:((spec_l1Cur_offers.f k l0 0 0).bind fun bt102=>((spec_l1Cur_pick.f l0 bt102.2.1 bt102.2.2 (wrap64 ((bt102.1.length:Int)+2))).bind fun bt107=>((spec_l1Cur_fewPlaces.f l0 bt107.2.1 bt107.2.2).bind fun bt110=>(some (bt102.1,wrap64 (bt107.1 - 1),bt110.1)))))=some (r1,r2,r3):=h;clear h;replace H:=Option.bind_eq_some_iff.mp H;obtain ⟨⟨t102,t105,t106⟩,A20,H⟩:=H;replace H:((spec_l1Cur_pick.f l0 t105 t106 (wrap64 ((t102.length:Int)+2))).bind fun bt107=>((spec_l1Cur_fewPlaces.f l0 bt107.2.1 bt107.2.2).bind fun bt110=>(some (t102,wrap64 (bt107.1 - 1),bt110.1))))=some (r1,r2,r3):=H;have A2:=aM A20;clear A20;replace H:=Option.bind_eq_some_iff.mp H;obtain ⟨⟨t107,t108,t109⟩,A30,H⟩:=H;replace H:((spec_l1Cur_fewPlaces.f l0 t108 t109).bind fun bt110=>(some (t102,wrap64 (t107 - 1),bt110.1)))=some (r1,r2,r3):=H;have A3:=aM A30;clear A30;replace H:=Option.bind_eq_some_iff.mp H;obtain ⟨⟨t110,t111,t112⟩,A40,H⟩:=H;replace H:(some (t102,wrap64 (t107 - 1),t110))=some (r1,r2,r3):=H;have A4:=aM A40;clear A40;simp only [Option.some.injEq,Prod.mk.injEq] at H;obtain ⟨rfl,rfl,rfl⟩:=H;go_enter Try.func41,Try.ntmps41;go_wp2_with (first|((with_reducible refine gate_dst (N:=9) rfl ?_);refine box_event ?hg (N:=9) ?hd (cs:=#[.slice A0 l0.length c0,.int .i64 0,.int .u64 0]) (t:=117) ?hr ?_;(case hd=>rfl);(case hg=>rfl);(case hr=>first|(go_simp;done)|(go_simp;rfl));intro gb101 hg w5 hbox hb;have n0_:=aM (Qi (by repeat (first|(with_reducible first|exact HB.out|apply Qc|apply Qa|apply Qb)|exact HB.out)) hb);have n1_:=aM ((show IsS117 w w5 gb101 l0 0 0 from ⟨A0,c0,hbox,(by rw [hg];exact (Qh (by repeat (first|(with_reducible first|exact HB.out|apply Qc|apply Qa|apply Qb)|exact HB.out)))),HR0.out⟩));have n2_:=aM ((by rw [hg];exact (Qh (by repeat (first|(with_reducible first|exact HB.out|apply Qc|apply Qa|apply Qb)|exact HB.out))):w.heap.size≤gb101));have n3_:=aM ((by rw [hg];exact (Qh (by repeat (first|(with_reducible first|exact HB.out|apply Qc|apply Qa|apply Qb)|exact HB.out))):w.heap.size≤gb101));clear HB;have HB:=n0_;have HI101:=n1_;have GW101:=n2_;have GE101:=n3_;clear n0_ n1_ n2_ n3_;clear hb hbox hg)|((with_reducible refine Qn (f:=138) rfl ?_);refine goesL_ (some 11) rfl rfl Try.func138 (by kernel_rfl) rfl #[.pointer (some ⟨gb101,0,none⟩)] rfl (by (try simp only [aD,aE,aF]);first|done|rfl|(simp only [aG,aH];rfl)) ?_;(with_reducible refine (spec_l1Cur_offers.calls k gb101 l0 0 0 t102 t105 t106 w _ ?side1 ?side2 A2.out).mono ?_);(case side1=>repeat (first|(with_reducible first|exact HI101.out|apply IsS117.alloc|apply IsS117.drewN|apply IsS117.drew|apply IsS117.set_1|apply IsS117.set_2)|exact HI101.out));(case side2=>repeat (first|(with_reducible first|exact HB.out|apply Qc|apply Qa|apply Qb|refine Qd ?_ (IsS117.ge HI101.out))|exact HB.out));rintro e w6 ⟨v103,rfl,ho0,hi,hb,hk⟩;refine ⟨_,rfl,?_⟩;have n0_:=aM (Kd.S_lower ho0 (Qh (by repeat (first|(with_reducible first|exact HB.out|apply Qc|apply Qa|apply Qb|refine Qd ?_ (IsS117.ge HI101.out))|exact HB.out))));have n1_:=aM (hb);have n2_:=aM (hi);clear HB;clear HI101;have HO104:=n0_;have HB:=n1_;have HI101:=n2_;clear n0_ n1_ n2_;(try clear hb);(try clear hb2);(try clear hk);(try clear hi);(try clear ho0);obtain ⟨Ao7,co7,eo7⟩:=Kd.S_slice HO104.out;subst eo7)|((with_reducible refine Qn (f:=122) rfl ?_);refine goesL_ (some 17) rfl rfl Try.func122 (by kernel_rfl) rfl #[.pointer (some ⟨gb101,0,none⟩),.int .i64 (wrap64 ((t102.length:Int)+2))] rfl (by (try simp only [aD,aE,aF]);first|done|rfl|(simp only [aG,aH];rfl)) ?_;(with_reducible refine (spec_l1Cur_pick.calls gb101 l0 t105 t106 (wrap64 ((t102.length:Int)+2)) t107 t108 t109 w _ ?side1 ?side2 A3.out).mono ?_);(case side1=>repeat (first|(with_reducible first|exact HI101.out|apply IsS117.alloc|apply IsS117.drewN|apply IsS117.drew|apply IsS117.set_1|apply IsS117.set_2)|exact HI101.out));(case side2=>repeat (first|(with_reducible first|exact HB.out|apply Qc|apply Qa|apply Qb|refine Qd ?_ (IsS117.ge HI101.out))|exact HB.out));rintro e w8 ⟨rfl,hi,hb,hk⟩;refine ⟨_,rfl,?_⟩;have n0_:=aM (Kd.S_mono (Kd.S_keep (IsS117.apartS (show IsS117 w _ gb101 l0 t105 t106 from by repeat (first|(with_reducible first|exact HI101.out|apply IsS117.alloc|apply IsS117.drewN|apply IsS117.drew|apply IsS117.set_1|apply IsS117.set_2)|exact HI101.out)) (by (with_reducible repeat (first|apply Kd.S_alloc|apply Kd.S_drewN|apply Kd.S_drew));exact HO104.out) (by decide)) hk (fun _ h=>h.2)) (fun _ h=>h.1));have n1_:=aM (hb);have n2_:=aM (hi);clear HO104;clear HB;clear HI101;have HO104:=n0_;have HB:=n1_;have HI101:=n2_;clear n0_ n1_ n2_;(try clear hb);(try clear hb2);(try clear hk);(try clear hi))|((with_reducible refine Qn (f:=139) rfl ?_);refine goesL_ (some 20) rfl rfl Try.func139 (by kernel_rfl) rfl #[.pointer (some ⟨gb101,0,none⟩)] rfl (by (try simp only [aD,aE,aF]);first|done|rfl|(simp only [aG,aH];rfl)) ?_;(with_reducible refine (spec_l1Cur_fewPlaces.calls gb101 l0 t108 t109 t110 t111 t112 w _ ?side1 ?side2 A4.out).mono ?_);(case side1=>repeat (first|(with_reducible first|exact HI101.out|apply IsS117.alloc|apply IsS117.drewN|apply IsS117.drew|apply IsS117.set_1|apply IsS117.set_2)|exact HI101.out));(case side2=>repeat (first|(with_reducible first|exact HB.out|apply Qc|apply Qa|apply Qb|refine Qd ?_ (IsS117.ge HI101.out))|exact HB.out));rintro e w9 ⟨rfl,hi,hb,hk⟩;refine ⟨_,rfl,?_⟩;have n0_:=aM (Kd.S_mono (Kd.S_keep (IsS117.apartS (show IsS117 w _ gb101 l0 t108 t109 from by repeat (first|(with_reducible first|exact HI101.out|apply IsS117.alloc|apply IsS117.drewN|apply IsS117.drew|apply IsS117.set_1|apply IsS117.set_2)|exact HI101.out)) (by (with_reducible repeat (first|apply Kd.S_alloc|apply Kd.S_drewN|apply Kd.S_drew));exact HO104.out) (by decide)) hk (fun _ h=>h.2)) (fun _ h=>h.1));have n1_:=aM (hb);have n2_:=aM (hi);clear HO104;clear HB;clear HI101;have HO104:=n0_;have HB:=n1_;have HI101:=n2_;clear n0_ n1_ n2_;(try clear hb);(try clear hb2);(try clear hk);(try clear hi)))
  go_ret3
  exact ⟨_,by first|rfl|(simp [errW_none,errW_some] <;> rfl)|(simp [*,errW_none,errW_some] <;> rfl),by (with_reducible repeat (first|apply Kd.S_alloc|apply Kd.S_drewN|apply Kd.S_drew));exact HO104.out,by repeat (first|(with_reducible first|exact HB.out|apply Qc|apply Qa|apply Qb|refine Qd ?_ (IsS117.ge HI101.out))|exact HB.out)⟩

def impl_Offer_145.f (l0:List (S53)) (a1 a2:Int):Option (List (S53)):=if 0≤a1 then (if a1<a2 then (if a2≤(l0.length:Int) then (some (l0.take a1.toNat ++ l0.drop a2.toNat)) else (none)) else (none)) else (none)
/-- 'clear(s)' of elements that are a struct of one slice. -/
theorem impl_Offer_145.run_clear {P:Program} (w:World) (t e ty:TypeId) (z z0:Value) (ht:P.underlying t=some (.slice e)) (hv:∀ w,(zeroValue e).run P w= .ok z w) (hz:z.cells= #[z0]) (h1:z0.oneCell'=true) (b o n c:Nat) (hn:0<n)
    (hc:∀ j,j<n→(w.cell? ⟨b,o+j,none⟩).isSome=true) (hf:∀ j,j<n→w.frozen? ⟨b,o+j,none⟩=false) :
    (Builtin.clear_ #[t] ty #[.slice (some ⟨b,o,none⟩) n c]).run P w= .ok (.tuple #[]) (w.setCells b o (List.replicate n z0)):=by
  have hzc:(Builtin.zeroCells z.cells n).toList=List.replicate n z0:=by
    rw [hz]
    simp [Builtin.zeroCells]
    apply List.ext_getElem
    · simp
    · intro i h1 h2
      simp [Nat.mod_one]
  have hst:=run_storeCells_cells (P:=P) b o (List.replicate n z0) 0 w (by simpa using hc) (by simpa using hf) (by intro v hv';rw [List.eq_of_mem_replicate hv'];exact h1);simp only [Nat.add_zero] at hst;obtain ⟨m,rfl⟩:∃ m,n=m+1:=⟨n - 1,by omega⟩
  simp [Builtin.clear_,run_underlying ht,hv,hzc,hst]
theorem impl_Offer_145.zero:∀ w,(zeroValue 53).run Try.prog w= .ok (.agg #[(.slice none 0 0)]) w:=by
  intro w;have hz:Try.t53.zero=some (.agg #[(.slice none 0 0)]):=by kernel_rfl
  simp [zeroValue,hz]
theorem impl_Offer_145.cellAt {W:World} {g e:Nat} {c:Array Value} (h:W.heap[g]? = some (.cells c e (0,0))) (t:Nat) (ht:t<c.size):W.cell? ⟨g,t,none⟩=some c[t]∧W.frozen? ⟨g,t,none⟩=false:=by
  constructor
  · simp [World.cell?,h,ht]
  · simp [World.frozen?,h]
set_option maxHeartbeats 4000000 in
set_option maxRecDepth 1000000 in
theorem impl_Offer_145.raw (blk cap i j n:Nat) (cur:Array Value) (w:World) (hg:w.heap[blk]? = some (.cells cur 53 (0,0))) (hsz:cur.size=cap) (h1:∀ u ∈ cur.toList.take n,u.oneCell'=true) (hcap:n≤cap) (hm:cap≤9223372036854775807) (hlt:i<j) (hj:j≤n) :
    Calls Try.prog 145 #[.slice (some ⟨blk,0,none⟩) n cap,.int .i64 i,.int .i64 j] w fun e w'=>e= .returned (.slice (some ⟨blk,0,none⟩) (n - (j - i)) cap)∧w'=(w.drew.setCells blk i ((cur.toList.take n).drop j)).setCells blk (i+(n - j)) (List.replicate (j - i) (.slice none 0 0)):=by
  obtain ⟨i0,hi0,hz0,hz1,hz2⟩:=info_parts info53;have hij:i≤j:=by omega
  obtain ⟨news,hnews⟩:∃ news,news=(cur.toList.take n).drop j:=⟨_,rfl⟩;have hlen:news.length=n - j:=by rw [hnews];simp;omega
  have hgd:w.drew.heap[blk]? = some (.cells cur 53 (0,0)):=hg
  have hget:∀ t,t<n - j→∀ (h:j+t<cur.size),news[t]? = some cur[j+t]:=by
    intro t ht h;rw [hnews,List.getElem?_drop,List.getElem?_take,if_pos (by omega),Array.getElem?_toList,Array.getElem?_eq_getElem h]
  obtain ⟨A,hA,hsrc⟩:∃ A:Addr,(if cap=j then some (⟨blk,0,none⟩:Addr) else some ⟨blk,j,none⟩)=some A∧Hid (∀ t u,news[t]? = some u→w.drew.cell? (A.add t)=some u):=by
    by_cases h:cap=j
    · refine ⟨⟨blk,0,none⟩,by simp [h],fun t u hu=>?_⟩
      have h0:news.length=0:=by rw [hlen];omega
      rw [List.length_eq_zero_iff.1 h0] at hu
      simp at hu
    · refine ⟨⟨blk,j,none⟩,by simp [h],fun t u hu=>?_⟩
      have ht:t<n - j:=by
        have:=(List.getElem?_eq_some_iff.1 hu).1
        rwa [hlen] at this
      rw [hget t ht (by omega)] at hu;rw [Addr.add_lit];exact (impl_Offer_145.cellAt hgd (j+t) (by omega)).1.trans hu
  have s1:Hid (news.length=(n - j) * 1):=by rw [Nat.mul_one];exact hlen
  have s2:Hid (∀ u ∈ news,u.oneCell'=true):=by
    intro u hu;rw [hnews] at hu;exact h1 u (List.mem_of_mem_drop hu)
  have s3:Hid (∀ t,t<news.length→(w.drew.cell? ⟨blk,0+i * 1+t,none⟩).isSome=true∧w.drew.frozen? ⟨blk,0+i * 1+t,none⟩=false):=by
    intro t ht;rw [hlen] at ht;rw [Nat.mul_one,Nat.zero_add];have h2:=impl_Offer_145.cellAt hgd (i+t) (by omega);exact ⟨by rw [h2.1];rfl,h2.2⟩
  obtain ⟨W1,hW1⟩:∃ W1,W1=w.drew.setCells blk (0+i * 1) news:=⟨_,rfl⟩;obtain ⟨cur1,hg1,hs1,_⟩:=setCells_row news (0+i * 1) w.drew cur hgd (by omega);rw [←hW1] at hg1
  have hcl:∀ ty,(Builtin.clear_ #[48] ty #[.slice (some ⟨blk,(i+(n - j)),none⟩) (n - (i+(n - j))) (cap - (i+(n - j)))]).run Try.prog W1= .ok (.tuple #[]) (W1.setCells blk ((i+(n - j))) (List.replicate (n - (i+(n - j))) (.slice none 0 0))):=
    fun ty=>impl_Offer_145.run_clear W1 _ _ ty _ (.slice none 0 0) Try.underlying48 impl_Offer_145.zero rfl rfl blk ((i+(n - j))) _ _ (by omega) (fun t ht=>by rw [(impl_Offer_145.cellAt hg1 (i+(n - j)+t) (by omega)).1];rfl) (fun t ht=>(impl_Offer_145.cellAt hg1 (i+(n - j)+t) (by omega)).2)
  have hW:Hid (W1=w.drew.setCells blk (0+i * 1) news):=hW1;have hN:Hid (news=(cur.toList.take n).drop j):=hnews;have hic:i≤cap:=by omega
  have hjc:j≤cap:=by omega
  clear hW1 hg1 hs1 hgd hg hget hnews hlen h1;go_enter Try.func145,Try.ntmps145;go_wp2_with fail
  go_region_law (refine step_append_room rfl (.tmp 22) (.tmp 25) 48 rfl 53 i0 1 Try.underlying48 hi0 hz1 blk 0 i cap (by simp [Act.eval,Act.put]) A (n - j) (cap - j) news (by simp [Act.eval,Act.put]) s1.out hsrc.out s2.out (by omega) s3.out ?_;rw [←hW.out])
  go_wp2
  go_ret
  refine ⟨by rw [show n - (j - i)=i+(n - j) by omega];rfl,?_⟩;rw [hW.out,hN.out,Nat.mul_one,Nat.zero_add,show n - (i+(n - j))=j - i by omega]
theorem impl_Offer_145.td {α:Type} (l:List α) (i j:Nat) (hij:i≤j) (hj:j≤l.length) (t:Nat) (x:α) (h:(l.take i ++ l.drop j)[t]? = some x):∃ q:Nat,l[q]? = some x∧∀ {β:Type} (l2:List β),l2.length=l.length→(l2.take i ++ l2.drop j)[t]? = l2[q]? :=by
  by_cases c:t<i
  · rw [List.getElem?_append_left (by simp;omega),List.getElem?_take,if_pos c] at h
    refine ⟨t,h,fun l2 hl=>?_⟩;rw [List.getElem?_append_left (by simp;omega),List.getElem?_take,if_pos c]
  · rw [List.getElem?_append_right (by simp;omega),List.getElem?_drop] at h
    refine ⟨_,h,fun l2 hl=>?_⟩;rw [List.getElem?_append_right (by simp;omega),List.getElem?_drop]
    simp [hl]
theorem impl_Offer_145.one {c:List Value} {q:Nat} {u:Value} (h:c[q]? = some u):(c.drop q).take 1=[u]:=by
  obtain ⟨hl,rfl⟩:=List.getElem?_eq_some_iff.1 h;rw [List.drop_eq_getElem_cons hl];rfl
theorem impl_Offer_145.calls (P0_:Nat→Prop) (base:Nat) (v:Value) (l0:List (S53)) (a1 a2:Int) (r:List (S53)) (w:World) (hN:Kd.N k53 53 w base P0_ v l0) (h:impl_Offer_145.f l0 a1 a2=some r) :
    Calls Try.prog 145 #[v,.int .i64 a1,.int .i64 a2] w fun e w'=>∃ v0_:Value,e= .returned v0_∧Kd.N k53 53 w' base P0_ v0_ r∧∀ (B:Nat) (w0:World),B≤base→Below B w0 w→Below B w0 w':=by
  unfold impl_Offer_145.f at h
  by_cases c1:0≤a1
  · rw [if_pos c1] at h
    by_cases c2:a1<a2
    · rw [if_pos c2] at h
      by_cases c3:a2≤(l0.length:Int)
      · rw [if_pos c3] at h
        obtain rfl:=Option.some.inj h;obtain ⟨i,rfl⟩:∃ i:Nat,a1=i:=⟨a1.toNat,by omega⟩;obtain ⟨j,rfl⟩:∃ j:Nat,a2=j:=⟨a2.toNat,by omega⟩;rw [Int.toNat_natCast,Int.toNat_natCast];obtain ⟨hP,rows,hrl,⟨hO,inner,⟨hil,hown⟩,hreps⟩,hf⟩:=hN
        rcases hown with ⟨hv,hn⟩|⟨g,cap,cur,hv,hb,hg,hncap,hcapmax,hcs,htake⟩
        · omega
        · subst hv
          change inner.length=rows.length * 1 at hil
          change cur.size=cap * 1 at hcs
          change cur.toList.take (rows.length * 1)=inner at htake
          have hreps2:∀ (q:Nat) (p:List Value),rows[q]? = some p→(inner.drop (q * 1)).take 1=p∧((inner.drop (q * 1)).take 1).length=1∧∀ u ∈ (inner.drop (q * 1)).take 1,u.oneCell'=true:=hreps.2;rw [Nat.mul_one] at hil hcs htake;simp only [Nat.mul_one] at hreps2
          have hone:∀ u ∈ cur.toList.take rows.length,u.oneCell'=true:=by
            intro u hu;rw [htake] at hu;obtain ⟨q,hq⟩:=List.getElem?_of_mem hu;have hql:=(List.getElem?_eq_some_iff.1 hq).1;have h3:=(hreps2 q _ (List.getElem?_eq_getElem (by omega))).2.2;rw [impl_Offer_145.one hq] at h3;exact h3 u List.mem_cons_self
          have hm:cap≤9223372036854775807:=Nat.le_trans hcapmax (by decide);refine (impl_Offer_145.raw g cap i j rows.length cur w hg hcs hone hncap hm (by omega) (by omega)).mono ?_
          rintro e w' ⟨rfl,hw'⟩
          rw [htake] at hw';have hgd:w.drew.heap[g]? = some (.cells cur 53 (0,0)):=hg;obtain ⟨cur1,hg1,hs1,ht1⟩:=setCells_row (inner.drop j) i w.drew cur hgd (by simp;omega);obtain ⟨cur2,hg2,hs2,ht2⟩:=setCells_row (List.replicate (j - i) (.slice none 0 0)) (i+(rows.length - j)) _ cur1 hg1 (by simp;omega);rw [←hw'] at hg2
          have hfar:∀ k,k≠g→w'.heap[k]? = w.heap[k]? :=fun k hk=>by
            rw [hw',setCells_far _ _ k hk,setCells_far _ _ k hk];rfl
          have htk:cur2.toList.take (rows.length - (j - i))=inner.take i ++ inner.drop j:=by
            have e1:rows.length - (j - i)=i+(rows.length - j):=by omega
            have l1:cur1.toList.length=cur.size:=by simpa using hs1
            have l0:cur.toList.length=cur.size:=by simp
            rw [ht2,e1,List.append_assoc,List.take_append_of_le_length (by rw [aH,l1];omega),List.take_take,Nat.min_self,ht1,List.append_assoc,←htake,List.take_take,List.drop_take];rw [List.take_append,List.take_append,List.take_take];simp only [aH,aG,l0];rw [show min (i+(rows.length - j)) i=min i rows.length by omega]
            congr 1
            rw [show i+(rows.length - j) - min i cur.size=rows.length - j by omega];rw [List.take_of_length_le (by rw [aH,aG,l0];omega)];rw [show rows.length - j - min (rows.length - j) (cur.size - j)=0 by omega,List.take_zero,List.append_nil]
          refine ⟨_,rfl,⟨fun k hk=>hP k hk,rows.take i ++ rows.drop j,by simp;omega,⟨fun k hk=>hk.symm,inner.take i ++ inner.drop j,⟨?_,.inr ⟨g,cap,cur2,?_,hb,hg2,?_,hcapmax,?_,?_⟩⟩,?_,?_⟩,fun t x c hx hc=>?_⟩,fun B w0 hB hbel=>?_⟩
          · show (inner.take i ++ inner.drop j).length=(rows.take i ++ rows.drop j).length * 1
            simp;omega
          · congr 1
            simp;omega
          · simp;omega
          · show cur2.size=cap * 1
            omega
          · show cur2.toList.take ((rows.take i ++ rows.drop j).length * 1)=_
            rw [←htk]
            congr 1
            simp;omega
          · show (inner.take i ++ inner.drop j).length=(rows.take i ++ rows.drop j).length * 1
            simp;omega
          · intro t p hp
            obtain ⟨q,hq,hq2⟩:=impl_Offer_145.td rows i j (by omega) (by omega) t p hp;have hql:=(List.getElem?_eq_some_iff.1 hq).1;have h3:=hreps2 q p hq;have h4:=hq2 inner hil;rw [List.getElem?_eq_getElem (by omega:q<inner.length)] at h4
            show ((inner.take i ++ inner.drop j).drop (t * 1)).take 1=p∧(((inner.take i ++ inner.drop j).drop (t * 1)).take 1).length=1∧∀ u ∈ ((inner.take i ++ inner.drop j).drop (t * 1)).take 1,u.oneCell'=true
            rw [Nat.mul_one,impl_Offer_145.one h4];rw [impl_Offer_145.one (List.getElem?_eq_getElem (by omega:q<inner.length))] at h3;exact h3
          · obtain ⟨q,hq,hq2⟩:=impl_Offer_145.td l0 i j (by omega) (by omega) t x hx
            rw [hq2 rows hrl] at hc;refine Kd.FK_step (hf q x c hq hc) (fun k hk _=>hfar k (fun he=>hk.2 (by rw [he];rfl)))
          · obtain ⟨p1,p2,p3,p4⟩:=setCells_same g (inner.drop j) i w.drew
            obtain ⟨q1,q2,q3,q4⟩:=setCells_same g (List.replicate (j - i) (Value.slice none 0 0)) (i+(rows.length - j)) (w.drew.setCells g i (inner.drop j));refine hbel.trans ⟨?_,?_,?_,?_,fun k hk=>hfar k (by omega)⟩
            · rw [hw',q1,p1];rfl
            · rw [hw',q2,p2];rfl
            · rw [hw',q3,p3];rfl
            · rw [hw',q4,p4];exact Nat.le_refl _
      · rw [if_neg c3] at h;cases h
    · rw [if_neg c2] at h;cases h
  · rw [if_neg c1] at h;cases h

def impl_Offer_146.f (l0:List (S53)):Option ((List (S53))):=(some (([]:List (S53)):List (S53))).bind fun y101=>(if y101.length+l0.length<5864062014805 then (some (y101 ++ l0)) else (none))
set_option maxHeartbeats 8000000 in
set_option maxRecDepth 100000 in
theorem impl_Offer_146.calls (P0_:Nat→Prop) (A0:Option Addr) (c0:Nat) (l0:List (S53)) (r:List (S53)) (w:World) (hs0:Kd.V k53 53 w w.heap.size (fun k_=>P0_ k_) (.slice A0 l0.length c0) l0) (h:impl_Offer_146.f l0=some r) :
    Calls Try.prog 146 #[.slice A0 l0.length c0] w fun e w'=>∃ v0_:Value,e= .returned (v0_)∧Kd.N k53 53 w' w.heap.size (fun k_=>(P0_ k_∨w.heap.size≤k_)) v0_ r∧Below w.heap.size w w':=by
  have HO0:=aM (show Kd.V k53 53 w w.heap.size (fun k_=>(P0_ k_∨w.heap.size≤k_)) (.slice A0 l0.length c0) l0 from Kd.V_mono hs0 (fun k_ hk=> .inl hk));have HB:=aM (Below.refl w.heap.size w);have H:((some (([]:List (S53)):List (S53))).bind fun y101=>(if y101.length+l0.length<5864062014805 then (some (y101 ++ l0)) else (none)))=some r:=h;clear h;by_cases hz2:A0=none
  ·have hz2l:l0=[]:=List.length_eq_zero_iff.mp (Nat.eq_zero_of_not_pos fun h_=>by obtain ⟨_,e_,_⟩:=(Kd.Qo HO0.out).2.2.2.2 h_;rw [hz2] at e_;cases e_);have hz2eql:∀ W_:World,(binOp BinOp.eql 48 (.slice A0 l0.length c0) (.slice none 0 0)).run Try.prog W_= .ok (.bool true) W_:=fun W_=>by rw [hz2];rfl
   have hz2neq:∀ W_:World,(binOp BinOp.neq 48 (.slice A0 l0.length c0) (.slice none 0 0)).run Try.prog W_= .ok (.bool false) W_:=fun W_=>by rw [hz2];rfl
   replace H:(some ([]:List (S53)))=some r:=by rw [hz2l] at H;simpa using H
   have hz2a:=aM hz2l;clear hz2 hz2l;obtain rfl:=Option.some.inj H;go_enter Try.func146,Try.ntmps146;go_wp2
   go_ret
   exact ⟨_,by first|rfl|(simp [errW_none,errW_some] <;> rfl)|(simp [*,errW_none,errW_some] <;> rfl),by first|exact Kd.S_nil _ _ _ _ _|exact Kd.N_nil _ _ _ _ _|exact Kd.V_nil _ _ _ _ _|exact Kd.Q_nil _ _ _ _ _|exact Kd.R_nil _ _ _ _ _,by repeat (first|(with_reducible first|exact HB.out|apply Qc|apply Qa|apply Qb)|exact HB.out)⟩
  ·skip
   have hz2eql:∀ W_:World,(binOp BinOp.eql 48 (.slice A0 l0.length c0) (.slice none 0 0)).run Try.prog W_= .ok (.bool false) W_:=fun W_=>by cases A0 with|none=>exact absurd rfl hz2|some a_=>rfl
   have hz2neq:∀ W_:World,(binOp BinOp.neq 48 (.slice A0 l0.length c0) (.slice none 0 0)).run Try.prog W_= .ok (.bool true) W_:=fun W_=>by cases A0 with|none=>exact absurd rfl hz2|some a_=>rfl
   clear hz2;obtain ⟨y101,hy101⟩:∃ y_:List (S53),y_=(([]:List (S53))):=⟨_,rfl⟩;replace H:(if y101.length+l0.length<5864062014805 then (some (y101 ++ l0)) else (none))=some r:=by first|(rw [hy101];with_reducible exact H)|(have H2_:=(Option.bind_some _ _).symm.trans H;rw [hy101];with_reducible exact H2_)|(have H2_:=(Option.bind_some _ _).symm.trans H;with_reducible exact H2_)|with_reducible exact H|(rw [hy101];exact H)|exact H
   have Ny101:=aM hy101;clear hy101;by_cases c3:y101.length+l0.length<5864062014805
   ·rw [if_pos c3] at H;have LMc3:=aM c3;clear c3;obtain ⟨y104,hy104⟩:∃ y_:List (S53),y_=(y101 ++ l0):=⟨_,rfl⟩;replace H:(some y104)=some r:=by first|(rw [hy104];with_reducible exact H)|(have H2_:=(Option.bind_some _ _).symm.trans H;rw [hy104];with_reducible exact H2_)|(have H2_:=(Option.bind_some _ _).symm.trans H;with_reducible exact H2_)|with_reducible exact H|(rw [hy104];exact H)|exact H
    have Ny104:=aM hy104;clear hy104;obtain rfl:=Option.some.inj H;go_enter Try.func146,Try.ntmps146;go_wp2_with (first|((with_reducible refine gate_dst (N:=5) rfl ?_);refine Kd.N_lit k53 _ 53 ?hg (N':=5) ?hd (xs:=([]:List (S53))) (inner:=[]) (ok:=(fun k_=>(P0_ k_∨w.heap.size≤k_))) (okp:=(fun k_=>(P0_ k_∨w.heap.size≤k_))) ?hr ?hp (fun _ hk=>hk) ((show ∀ k_,w.heap.size≤k_→(fun k_=>(P0_ k_∨w.heap.size≤k_)) k_ from fun k_ hk=>(.inr (Nat.le_trans (Qh (by repeat (first|(with_reducible first|exact HB.out|apply Qc|apply Qa|apply Qb)|exact HB.out))) hk))) _ (Nat.le_refl _)) (Below.refl _ _) (Nat.le_refl _) (by simp) ?_;(case hd=>rfl);(case hg=>rfl);(case hr=>first|(go_simp;done)|(go_simp;rfl));(case hp=>exact (Reps.none _ _));intro v102 w4 ho5 hb hg_ hnew_;clear hg_ hnew_;(first|rw [←Ny101.out] at ho5|(simp only [Int.reduceToNat] at ho5;rw [←Ny101.out] at ho5));have n0_:=aM (Kd.V_elder' (by (with_reducible repeat (first|apply Kd.V_alloc|apply Kd.V_drewN|apply Kd.V_drew));exact HO0.out) (Kd.N_base ho5) hb);have n1_:=aM (Kd.N_lower ho5 (Qh (by repeat (first|(with_reducible first|exact HB.out|apply Qc|apply Qa|apply Qb)|exact HB.out))));have n2_:=aM (Qi (by repeat (first|(with_reducible first|exact HB.out|apply Qc|apply Qa|apply Qb)|exact HB.out)) hb);clear HO0;clear HB;have HO0:=n0_;have HO103:=n1_;have HB:=n2_;clear n0_ n1_ n2_;clear hb ho5)|((with_reducible refine gate_builtin (b:= .append) (xs:=#[.tmp 5,.tmp 6]) rfl ?_);at_builtin;refine Kd.N_append_rows k53 (w0:=w) w.heap.size rfl (.tmp 5) (.tmp 6) 48 53 (.agg #[(.slice none 0 0)]) 24 rfl Try.underlying48 info53 rfl (by decide) (by omega) v102 y101 l0 _ _ _ (fun k_=>(P0_ k_∨w.heap.size≤k_)) (fun k_=>((fun k_=>(P0_ k_∨w.heap.size≤k_))) k_∧some k_≠(v102:Value).ownBlock) rfl rfl ?aO ?aR (fun _ hk=>hk) ?aF ?aB ?aS ?aL ?_;(case aR=>exact (by skip;exact Kd.V_F (Kd.V_mono (ok':=(fun k_=>((fun k_=>(P0_ k_∨w.heap.size≤k_))) k_∧some k_≠(v102:Value).ownBlock)) (HO0.out) (fun k_ hk=>⟨hk.1,hk.2⟩))));(case aB=>exact (by repeat (first|(with_reducible first|exact HB.out|apply Qc|apply Qa|apply Qb)|exact HB.out)));(case aF=>exact (fun k_ hk=>(.inr (Nat.le_trans (Qh (by repeat (first|(with_reducible first|exact HB.out|apply Qc|apply Qa|apply Qb)|exact HB.out))) hk))));(case aO=>exact (by (with_reducible repeat (first|apply Kd.Ql|apply Kd.Qm|apply Kd.N_drew));exact HO103.out));(case aS=>exact (Qh (by repeat (first|(with_reducible first|exact HB.out|apply Qc|apply Qa|apply Qb)|exact HB.out))));(case aL=>have:=LMc3.out;omega);intro v105 w6 ho hb hg hat;rw [←Ny104.out] at ho;have n0_:=aM (Kd.V_afterv (ok:=(fun k_=>(P0_ k_∨w.heap.size≤k_))) (by (with_reducible repeat (first|apply Kd.V_alloc|apply Kd.V_drewN|apply Kd.V_drew));exact HO0.out) hg hat);have n1_:=aM (hb);have n2_:=aM (ho);clear HO0;clear HB;clear HO103;have HO0:=n0_;have HB:=n1_;have HO106:=n2_;clear n0_ n1_ n2_;clear ho hb hg hat))
    go_ret
    exact ⟨_,by first|rfl|(simp [errW_none,errW_some] <;> rfl)|(simp [*,errW_none,errW_some] <;> rfl),by (with_reducible repeat (first|apply Kd.Ql|apply Kd.Qm|apply Kd.N_drew));exact HO106.out,by repeat (first|(with_reducible first|exact HB.out|apply Qc|apply Qa|apply Qb)|exact HB.out)⟩
   ·rw [if_neg c3] at H;exact absurd H (by simp)
end Go.Proofs.Ytpagpbamdpllnaa.Print
