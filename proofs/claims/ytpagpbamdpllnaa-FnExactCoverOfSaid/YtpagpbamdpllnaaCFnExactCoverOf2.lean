/- At every argument CoverOf of the program answers as CoverOf of the reference, before and after its arguments and its answer are written over: no condition but the statement's own. -/
import Derived.Test.YtpagpbamdpllnaaCFnExactCoverOf0
import Derived.Test.YtpagpbamdpllnaaCFnExactCoverOf1
import Derived.Deep.Slices
import Derived.ChangeArms
import Derived.ChangeSame
import Derived.Below
set_option linter.unusedVariables false
set_option linter.unusedSimpArgs false
namespace Go.Proofs.Ytpagpbamdpllnaa.Print
open Go.RowKit Go.Proofs.YtpagpbamdpllnaaW.PrintWords Go.Proofs.YtpagpbamdpllnaaW.PrintLast Go.Proofs.YtpagpbamdpllnaaW.PrintMore
attribute [local go_sem] max2_int min2_int max_two min_two max_three min_three max_four min_four

mutual
def laws_FnExactCoverOf.j0:Nat→List (List Bool)→List Int→List Int→Bool→List (List Bool)→List Int→List Int→Bool→Bool→Option (Bool)
  |0,_,_,_,_,_,_,_,_,_=>none
  |k+1,x0,x4,x5,x6,x7,x8,x9,x10,x51=>if x51=true then (some false) else ((laws_toBoolSS.f k x0).bind fun t124=>((laws_eqBoolSS.f k x7 t124).bind fun t127=>(if t127=true then ((laws_markBoolSS.f k x7 1).bind fun bt128=>(if bt128.1<0 then (laws_FnExactCoverOf.j1 k x0 x4 x5 x6 x8 x9 true) else ((laws_eqIntS.f k x8 x4).bind fun t130=>(if t130=true then ((laws_eqIntS.f k x9 x5).bind fun t131=>(if t131=true then (laws_FnExactCoverOf.j1 k x0 x4 x5 x6 x8 x9 (x10 != x6)) else (laws_FnExactCoverOf.j1 k x0 x4 x5 x6 x8 x9 true))) else (laws_FnExactCoverOf.j1 k x0 x4 x5 x6 x8 x9 true))))) else (some false))))
def laws_FnExactCoverOf.j1:Nat→List (List Bool)→List Int→List Int→Bool→List Int→List Int→Bool→Option (Bool)
  |0,_,_,_,_,_,_,_=>none
  |k+1,x0,x4,x5,x6,x8,x9,x78=>if x78=true then (some false) else ((laws_markIntS.f k x8 1).bind fun bt132=>((laws_markIntS.f k x9 bt132.1).bind fun bt134=>((laws_heldIntS.f k bt132.2 1).bind fun t136=>(if t136<0 then (some false) else ((laws_heldIntS.f k bt134.2 t136).bind fun t137=>(if t137<0 then (some false) else (if t137=bt134.1 then ((laws_toBoolSS.f k x0).bind fun t138=>((impl_CoverOf.f k t138).bind fun bt141=>((laws_eqIntS.f k bt141.1 x4).bind fun t148=>(if t148=true then ((laws_eqIntS.f k bt141.2.1 x5).bind fun t149=>(if t149=true then (laws_FnExactCoverOf.j2 k bt132.2 bt134.2 bt134.1 (bt141.2.2 != x6)) else (laws_FnExactCoverOf.j2 k bt132.2 bt134.2 bt134.1 true))) else (laws_FnExactCoverOf.j2 k bt132.2 bt134.2 bt134.1 true))))) else (some false))))))))
def laws_FnExactCoverOf.j2:Nat→List Int→List Int→Int→Bool→Option (Bool)
  |0,_,_,_,_=>none
  |k+1,x8,x9,x12,x119=>if x119=true then (some false) else ((laws_heldIntS.f k x8 1).bind fun t150=>(if t150<0 then (some false) else ((laws_heldIntS.f k x9 t150).bind fun t151=>(if t151<0 then (some false) else (if t151=x12 then (some true) else (some false))))))
end
def laws_FnExactCoverOf.f (k:Nat) (l0:List (List Bool)):Option (Bool):=(laws_szBoolSS.f k l0 1048576).bind fun t101=>(if t101<0 then (some true) else ((laws_toBoolSS.f k l0).bind fun t102=>((spec_CoverOf.f k t102).bind fun bt105=>((laws_toBoolSS.f k l0).bind fun t112=>((impl_CoverOf.f k t112).bind fun bt115=>((laws_eqIntS.f k bt115.1 bt105.1).bind fun t122=>(if t122=true then ((laws_eqIntS.f k bt115.2.1 bt105.2.1).bind fun t123=>(if t123=true then (laws_FnExactCoverOf.j0 k l0 bt105.1 bt105.2.1 bt105.2.2 t112 bt115.1 bt115.2.1 bt115.2.2 (bt115.2.2 != bt105.2.2)) else (laws_FnExactCoverOf.j0 k l0 bt105.1 bt105.2.1 bt105.2.2 t112 bt115.1 bt115.2.1 bt115.2.2 true))) else (laws_FnExactCoverOf.j0 k l0 bt105.1 bt105.2.1 bt105.2.2 t112 bt115.1 bt115.2.1 bt115.2.2 true))))))))
set_option maxHeartbeats 8000000 in
set_option maxRecDepth 100000 in
theorem laws_FnExactCoverOf.calls (k:Nat) (A0:Option Addr) (c0:Nat) (l0:List (List Bool)) (r:Bool) (w:World) (hr0:Kd.C (Kd.slice 4 Kd.bool) w A0 l0.length l0) (hc0:l0.length≤c0) (h:laws_FnExactCoverOf.f k l0=some r) :
    Calls Try.prog 9 #[.slice A0 l0.length c0] w fun e w'=>e= .returned (.bool r)∧Below w.heap.size w w':=by
  have HR0:=aM hr0;have HC0:=aM hc0;clear hr0 hc0;have HB:=aM (Below.refl w.heap.size w);have H:((laws_szBoolSS.f k l0 1048576).bind fun t101=>(if t101<0 then (some true) else ((laws_toBoolSS.f k l0).bind fun t102=>((spec_CoverOf.f k t102).bind fun bt105=>((laws_toBoolSS.f k l0).bind fun t112=>((impl_CoverOf.f k t112).bind fun bt115=>((laws_eqIntS.f k bt115.1 bt105.1).bind fun t122=>(if t122=true then ((laws_eqIntS.f k bt115.2.1 bt105.2.1).bind fun t123=>(if t123=true then (laws_FnExactCoverOf.j0 k l0 bt105.1 bt105.2.1 bt105.2.2 t112 bt115.1 bt115.2.1 bt115.2.2 (bt115.2.2 != bt105.2.2)) else (laws_FnExactCoverOf.j0 k l0 bt105.1 bt105.2.1 bt105.2.2 t112 bt115.1 bt115.2.1 bt115.2.2 true))) else (laws_FnExactCoverOf.j0 k l0 bt105.1 bt105.2.1 bt105.2.2 t112 bt115.1 bt115.2.1 bt115.2.2 true)))))))))=some r:=h;clear h;replace H:=Option.bind_eq_some_iff.mp H;obtain ⟨t101,A20,H⟩:=H;replace H:(if t101<0 then (some true) else ((laws_toBoolSS.f k l0).bind fun t102=>((spec_CoverOf.f k t102).bind fun bt105=>((laws_toBoolSS.f k l0).bind fun t112=>((impl_CoverOf.f k t112).bind fun bt115=>((laws_eqIntS.f k bt115.1 bt105.1).bind fun t122=>(if t122=true then ((laws_eqIntS.f k bt115.2.1 bt105.2.1).bind fun t123=>(if t123=true then (laws_FnExactCoverOf.j0 k l0 bt105.1 bt105.2.1 bt105.2.2 t112 bt115.1 bt115.2.1 bt115.2.2 (bt115.2.2 != bt105.2.2)) else (laws_FnExactCoverOf.j0 k l0 bt105.1 bt105.2.1 bt105.2.2 t112 bt115.1 bt115.2.1 bt115.2.2 true))) else (laws_FnExactCoverOf.j0 k l0 bt105.1 bt105.2.1 bt105.2.2 t112 bt115.1 bt115.2.1 bt115.2.2 true))))))))=some r:=H;have A2:=aM A20;clear A20;by_cases c3:t101<0
  ·rw [if_pos c3] at H;have c3b0:decide (t101<0)=true:=decide_eq_true c3;clear c3;obtain rfl:=Option.some.inj H;go_enter Try.func9,Try.ntmps9;go_wp2_with (first|((with_reducible refine Qg (f:=57) rfl ?_);refine goesL_ (some 19) rfl rfl Try.func57 (by kernel_rfl) rfl #[.slice A0 l0.length c0,.int .i64 1048576] rfl (by (try simp only [aD,aE,aF]);first|done|rfl|(simp only [aG,aH];rfl)) ?_;(with_reducible refine (laws_szBoolSS.calls k _ _ l0 1048576 t101 _ ?side1 ?side2 A2.out).mono ?_);(case side1=>repeat (first|exact HR0.out|(with_reducible refine Kd.C_alloc ?_ _)|(with_reducible refine Kd.C_drewN ?_ _)|(with_reducible refine Kd.C_drew ?_)));(case side2=>exact HC0.out);rintro e w' ⟨rfl,⟨nd,rfl⟩⟩;refine ⟨_,rfl,?_⟩))
   go_ret
   exact ⟨by first|rfl|(simp [errW_none,errW_some] <;> rfl)|(simp [*,errW_none,errW_some] <;> rfl),by repeat (first|(with_reducible first|exact HB.out|apply Qb|apply Qa|apply Qc)|exact HB.out)⟩
  ·rw [if_neg c3] at H;have c3b0:decide (t101<0)=false:=decide_eq_false c3;clear c3;replace H:=Option.bind_eq_some_iff.mp H;obtain ⟨t102,A40,H⟩:=H;replace H:((spec_CoverOf.f k t102).bind fun bt105=>((laws_toBoolSS.f k l0).bind fun t112=>((impl_CoverOf.f k t112).bind fun bt115=>((laws_eqIntS.f k bt115.1 bt105.1).bind fun t122=>(if t122=true then ((laws_eqIntS.f k bt115.2.1 bt105.2.1).bind fun t123=>(if t123=true then (laws_FnExactCoverOf.j0 k l0 bt105.1 bt105.2.1 bt105.2.2 t112 bt115.1 bt115.2.1 bt115.2.2 (bt115.2.2 != bt105.2.2)) else (laws_FnExactCoverOf.j0 k l0 bt105.1 bt105.2.1 bt105.2.2 t112 bt115.1 bt115.2.1 bt115.2.2 true))) else (laws_FnExactCoverOf.j0 k l0 bt105.1 bt105.2.1 bt105.2.2 t112 bt115.1 bt115.2.1 bt115.2.2 true))))))=some r:=H;have A4:=aM A40;clear A40;replace H:=Option.bind_eq_some_iff.mp H;obtain ⟨⟨t105,t106,t107⟩,A50,H⟩:=H;replace H:((laws_toBoolSS.f k l0).bind fun t112=>((impl_CoverOf.f k t112).bind fun bt115=>((laws_eqIntS.f k bt115.1 t105).bind fun t122=>(if t122=true then ((laws_eqIntS.f k bt115.2.1 t106).bind fun t123=>(if t123=true then (laws_FnExactCoverOf.j0 k l0 t105 t106 t107 t112 bt115.1 bt115.2.1 bt115.2.2 (bt115.2.2 != t107)) else (laws_FnExactCoverOf.j0 k l0 t105 t106 t107 t112 bt115.1 bt115.2.1 bt115.2.2 true))) else (laws_FnExactCoverOf.j0 k l0 t105 t106 t107 t112 bt115.1 bt115.2.1 bt115.2.2 true)))))=some r:=H;have A5:=aM A50;clear A50;replace H:=Option.bind_eq_some_iff.mp H;obtain ⟨t112,A60,H⟩:=H;replace H:((impl_CoverOf.f k t112).bind fun bt115=>((laws_eqIntS.f k bt115.1 t105).bind fun t122=>(if t122=true then ((laws_eqIntS.f k bt115.2.1 t106).bind fun t123=>(if t123=true then (laws_FnExactCoverOf.j0 k l0 t105 t106 t107 t112 bt115.1 bt115.2.1 bt115.2.2 (bt115.2.2 != t107)) else (laws_FnExactCoverOf.j0 k l0 t105 t106 t107 t112 bt115.1 bt115.2.1 bt115.2.2 true))) else (laws_FnExactCoverOf.j0 k l0 t105 t106 t107 t112 bt115.1 bt115.2.1 bt115.2.2 true))))=some r:=H;have A6:=aM A60;clear A60;replace H:=Option.bind_eq_some_iff.mp H;obtain ⟨⟨t115,t116,t117⟩,A70,H⟩:=H;replace H:((laws_eqIntS.f k t115 t105).bind fun t122=>(if t122=true then ((laws_eqIntS.f k t116 t106).bind fun t123=>(if t123=true then (laws_FnExactCoverOf.j0 k l0 t105 t106 t107 t112 t115 t116 t117 (t117 != t107)) else (laws_FnExactCoverOf.j0 k l0 t105 t106 t107 t112 t115 t116 t117 true))) else (laws_FnExactCoverOf.j0 k l0 t105 t106 t107 t112 t115 t116 t117 true)))=some r:=H;have A7:=aM A70;clear A70;have HC8:=aM H;clear H;go_enter Try.func9,Try.ntmps9
   go_upto_region 8 with (first|((with_reducible refine Qg (f:=57) rfl ?_);refine goesL_ (some 19) rfl rfl Try.func57 (by kernel_rfl) rfl #[.slice A0 l0.length c0,.int .i64 1048576] rfl (by (try simp only [aD,aE,aF]);first|done|rfl|(simp only [aG,aH];rfl)) ?_;(with_reducible refine (laws_szBoolSS.calls k _ _ l0 1048576 t101 _ ?side1 ?side2 A2.out).mono ?_);(case side1=>repeat (first|exact HR0.out|(with_reducible refine Kd.C_alloc ?_ _)|(with_reducible refine Kd.C_drewN ?_ _)|(with_reducible refine Kd.C_drew ?_)));(case side2=>exact HC0.out);rintro e w' ⟨rfl,⟨nd,rfl⟩⟩;refine ⟨_,rfl,?_⟩)|((with_reducible refine Qg (f:=59) rfl ?_);refine goesL_ (some 24) rfl rfl Try.func59 (by kernel_rfl) rfl #[.slice A0 l0.length c0] rfl (by (try simp only [aD,aE,aF]);first|done|rfl|(simp only [aG,aH];rfl)) ?_;(with_reducible refine (laws_toBoolSS.calls k _ _ l0 t102 _ ?side1 ?side2 A4.out).mono ?_);(case side1=>repeat (first|exact HR0.out|(with_reducible refine Kd.C_alloc ?_ _)|(with_reducible refine Kd.C_drewN ?_ _)|(with_reducible refine Kd.C_drew ?_)));(case side2=>exact HC0.out);rintro e w9 ⟨v103,rfl,ho0,hb⟩;refine ⟨_,rfl,?_⟩;have n0_:=aM (Kd.S_lower ho0 (below_size (by repeat (first|(with_reducible first|exact HB.out|apply Qb|apply Qa|apply Qc)|exact HB.out))));have n1_:=aM (below_step (by repeat (first|(with_reducible first|exact HB.out|apply Qb|apply Qa|apply Qc)|exact HB.out)) hb);clear HB;have HO104:=n0_;have HB:=n1_;clear n0_ n1_;(try clear hb);(try clear hb2);(try clear hk);(try clear hi);(try clear ho0);obtain ⟨Ao10,co10,eo10⟩:=Kd.S_slice HO104.out;subst eo10)|((with_reducible refine Qg (f:=70) rfl ?_);refine goesL_ (some 25) rfl rfl Try.func70 (by kernel_rfl) rfl #[.slice Ao10 t102.length co10] rfl (by (try simp only [aD,aE,aF]);first|done|rfl|(simp only [aG,aH];rfl)) ?_;(with_reducible refine (spec_CoverOf.calls k _ _ t102 t105 t106 t107 _ ?side1 ?side2 A5.out).mono ?_);(case side1=>repeat (first|exact (Kd.S_reads' HO104.out).2.2|(with_reducible refine Kd.C_alloc ?_ _)|(with_reducible refine Kd.C_drewN ?_ _)|(with_reducible refine Kd.C_drew ?_)));(case side2=>exact (Kd.S_reads' HO104.out).2.1);rintro e w11 ⟨v108,v110,rfl,ho0,ho1,hb⟩;refine ⟨_,rfl,?_⟩;have n0_:=aM (Kd.S_below (by (with_reducible repeat (first|apply Kd.S_alloc|apply Kd.S_drewN|apply Kd.S_drew));exact HO104.out) hb);have n1_:=aM (Kd.R_lower ho0 (below_size (by repeat (first|(with_reducible first|exact HB.out|apply Qb|apply Qa|apply Qc)|exact HB.out))));have n2_:=aM (Kd.R_lower ho1 (below_size (by repeat (first|(with_reducible first|exact HB.out|apply Qb|apply Qa|apply Qc)|exact HB.out))));have n3_:=aM (below_step (by repeat (first|(with_reducible first|exact HB.out|apply Qb|apply Qa|apply Qc)|exact HB.out)) hb);clear HO104;clear HB;have HO104:=n0_;have HO109:=n1_;have HO111:=n2_;have HB:=n3_;clear n0_ n1_ n2_ n3_;(try clear hb);(try clear hb2);(try clear hk);(try clear hi);(try clear ho0);(try clear ho1))|((with_reducible refine Qg (f:=59) rfl ?_);refine goesL_ (some 30) rfl rfl Try.func59 (by kernel_rfl) rfl #[.slice A0 l0.length c0] rfl (by (try simp only [aD,aE,aF]);first|done|rfl|(simp only [aG,aH];rfl)) ?_;(with_reducible refine (laws_toBoolSS.calls k _ _ l0 t112 _ ?side1 ?side2 A6.out).mono ?_);(case side1=>repeat (first|exact (Kd.C_below HR0.out HB.out)|(with_reducible refine Kd.C_alloc ?_ _)|(with_reducible refine Kd.C_drewN ?_ _)|(with_reducible refine Kd.C_drew ?_)));(case side2=>exact HC0.out);rintro e w12 ⟨v113,rfl,ho0,hb⟩;refine ⟨_,rfl,?_⟩;have n0_:=aM (Kd.S_elder' (by (with_reducible repeat (first|apply Kd.S_alloc|apply Kd.S_drewN|apply Kd.S_drew));exact HO104.out) (Kd.S_base ho0) hb);have n1_:=aM (Kd.R_below (by (with_reducible repeat (first|apply Kd.Qd|apply Kd.Qe|apply Kd.R_drew));exact HO109.out) hb);have n2_:=aM (Kd.R_below (by (with_reducible repeat (first|apply Kd.Qd|apply Kd.Qe|apply Kd.R_drew));exact HO111.out) hb);have n3_:=aM (Kd.S_lower (Kd.S_new' ho0 (Kd.S_lt (by (with_reducible repeat (first|apply Kd.S_alloc|apply Kd.S_drewN|apply Kd.S_drew));exact HO104.out))) (below_size (by repeat (first|(with_reducible first|exact HB.out|apply Qb|apply Qa|apply Qc)|exact HB.out))));have n4_:=aM (below_step (by repeat (first|(with_reducible first|exact HB.out|apply Qb|apply Qa|apply Qc)|exact HB.out)) hb);clear HO104;clear HO109;clear HO111;clear HB;have HO104:=n0_;have HO109:=n1_;have HO111:=n2_;have HO114:=n3_;have HB:=n4_;clear n0_ n1_ n2_ n3_ n4_;(try clear hb);(try clear hb2);(try clear hk);(try clear hi);(try clear ho0);obtain ⟨Ao13,co13,eo13⟩:=Kd.S_slice HO114.out;subst eo13)|((with_reducible refine Qg (f:=71) rfl ?_);refine goesL_ (some 33) rfl rfl Try.func71 (by kernel_rfl) rfl #[.slice Ao13 t112.length co13] rfl (by (try simp only [aD,aE,aF]);first|done|rfl|(simp only [aG,aH];rfl)) ?_;(with_reducible refine (impl_CoverOf.calls k _ _ t112 t115 t116 t117 _ ?side1 ?side2 A7.out).mono ?_);(case side1=>repeat (first|exact (Kd.S_reads' HO114.out).2.2|(with_reducible refine Kd.C_alloc ?_ _)|(with_reducible refine Kd.C_drewN ?_ _)|(with_reducible refine Kd.C_drew ?_)));(case side2=>exact (Kd.S_reads' HO114.out).2.1);rintro e w14 ⟨v118,v120,rfl,ho0,ho1,hb⟩;refine ⟨_,rfl,?_⟩;have n0_:=aM (Kd.S_below (by (with_reducible repeat (first|apply Kd.S_alloc|apply Kd.S_drewN|apply Kd.S_drew));exact HO104.out) hb);have n1_:=aM (Kd.R_mono (Kd.R_told (Kd.R_told (Kd.R_old (by (with_reducible repeat (first|apply Kd.Qd|apply Kd.Qe|apply Kd.R_drew));exact HO109.out) hb) (Kd.R_base ho0)) (Kd.R_base ho1)) (fun _ h_=>h_.1));have n2_:=aM (Kd.R_mono (Kd.R_told (Kd.R_told (Kd.R_old (by (with_reducible repeat (first|apply Kd.Qd|apply Kd.Qe|apply Kd.R_drew));exact HO111.out) hb) (Kd.R_base ho0)) (Kd.R_base ho1)) (fun _ h_=>h_.1));have n3_:=aM (Kd.S_below (by (with_reducible repeat (first|apply Kd.S_alloc|apply Kd.S_drewN|apply Kd.S_drew));exact HO114.out) hb);have n4_:=aM (Kd.R_lower (Kd.R_new' (Kd.R_new' ho0 (Kd.R_lt (by (with_reducible repeat (first|apply Kd.Qd|apply Kd.Qe|apply Kd.R_drew));exact HO109.out))) (Kd.R_lt (by (with_reducible repeat (first|apply Kd.Qd|apply Kd.Qe|apply Kd.R_drew));exact HO111.out))) (below_size (by repeat (first|(with_reducible first|exact HB.out|apply Qb|apply Qa|apply Qc)|exact HB.out))));have n5_:=aM (Kd.R_lower (Kd.R_new' (Kd.R_new' ho1 (Kd.R_lt (by (with_reducible repeat (first|apply Kd.Qd|apply Kd.Qe|apply Kd.R_drew));exact HO109.out))) (Kd.R_lt (by (with_reducible repeat (first|apply Kd.Qd|apply Kd.Qe|apply Kd.R_drew));exact HO111.out))) (below_size (by repeat (first|(with_reducible first|exact HB.out|apply Qb|apply Qa|apply Qc)|exact HB.out))));have n6_:=aM (below_step (by repeat (first|(with_reducible first|exact HB.out|apply Qb|apply Qa|apply Qc)|exact HB.out)) hb);clear HO104;clear HO109;clear HO111;clear HO114;clear HB;have HO104:=n0_;have HO109:=n1_;have HO111:=n2_;have HO114:=n3_;have HO119:=n4_;have HO121:=n5_;have HB:=n6_;clear n0_ n1_ n2_ n3_ n4_ n5_ n6_;(try clear hb);(try clear hb2);(try clear hk);(try clear hi);(try clear ho0);(try clear ho1)))
   (try simp only [Act.put,aA,aB,aC])
   go_cut [51] (fun v51 wc=>∃ (kq:Nat) (x51_7:Bool),v51= .bool x51_7∧Aside0 (laws_FnExactCoverOf.j0 kq l0 t105 t106 t107 t112 t115 t116 t117 x51_7=some r)∧Aside0 (kq≤k)∧Aside0 (Kd.R (Kd.int .i64) 3 wc w.heap.size (fun k_=>some k_≠(v110:Value).ownBlock∧some k_≠(v118:Value).ownBlock∧some k_≠(v120:Value).ownBlock) v108 t105)∧Aside0 (Kd.R (Kd.int .i64) 3 wc w.heap.size (fun k_=>some k_≠(v108:Value).ownBlock∧some k_≠(v118:Value).ownBlock∧some k_≠(v120:Value).ownBlock) v110 t106)∧Aside0 (Kd.S (Kd.slice 4 Kd.bool) 88 wc w.heap.size (fun _=>True) (.slice Ao13 t112.length co13) t112)∧Aside0 (Kd.R (Kd.int .i64) 3 wc w.heap.size (fun k_=>some k_≠(v108:Value).ownBlock∧some k_≠(v110:Value).ownBlock∧some k_≠(v120:Value).ownBlock) v118 t115)∧Aside0 (Kd.R (Kd.int .i64) 3 wc w.heap.size (fun k_=>some k_≠(v108:Value).ownBlock∧some k_≠(v110:Value).ownBlock∧some k_≠(v118:Value).ownBlock) v120 t116)∧Aside0 (Below w.heap.size w wc))
   case first=>
    have H:=HC8.out;clear HC8;replace H:=Option.bind_eq_some_iff.mp H;obtain ⟨t122,A150,H⟩:=H;replace H:(if t122=true then ((laws_eqIntS.f k t116 t106).bind fun t123=>(if t123=true then (laws_FnExactCoverOf.j0 k l0 t105 t106 t107 t112 t115 t116 t117 (t117 != t107)) else (laws_FnExactCoverOf.j0 k l0 t105 t106 t107 t112 t115 t116 t117 true))) else (laws_FnExactCoverOf.j0 k l0 t105 t106 t107 t112 t115 t116 t117 true))=some r:=H;have A15:=aM A150;clear A150;by_cases c16:t122=true
    ·subst c16;have H1:((laws_eqIntS.f k t116 t106).bind fun t123=>(if t123=true then (laws_FnExactCoverOf.j0 k l0 t105 t106 t107 t112 t115 t116 t117 (t117 != t107)) else (laws_FnExactCoverOf.j0 k l0 t105 t106 t107 t112 t115 t116 t117 true)))=some r:=by rw [if_pos rfl] at H;exact H
     clear H;have H:=H1;clear H1;replace H:=Option.bind_eq_some_iff.mp H;obtain ⟨t123,A170,H⟩:=H;replace H:(if t123=true then (laws_FnExactCoverOf.j0 k l0 t105 t106 t107 t112 t115 t116 t117 (t117 != t107)) else (laws_FnExactCoverOf.j0 k l0 t105 t106 t107 t112 t115 t116 t117 true))=some r:=H;have A17:=aM A170;clear A170;by_cases c18:t123=true
     ·subst c18;have H1:(laws_FnExactCoverOf.j0 k l0 t105 t106 t107 t112 t115 t116 t117 (t117 != t107))=some r:=by rw [if_pos rfl] at H;exact H
      clear H;have H:=H1;clear H1;have H':=aM H;clear H;obtain ⟨Ao19,co19,eo19⟩:=Kd.R_slice HO119.out;subst eo19;obtain ⟨Ao20,co20,eo20⟩:=Kd.R_slice HO109.out;subst eo20;go_wp2_with (first|((with_reducible refine Qg (f:=61) rfl ?_);refine goesL_ (some 39) rfl rfl Try.func61 (by kernel_rfl) rfl #[.slice Ao19 t115.length co19,.slice Ao20 t105.length co20] rfl (by (try simp only [aD,aE,aF]);first|done|rfl|(simp only [aG,aH];rfl)) ?_;(with_reducible refine (laws_eqIntS.calls k _ _ t115 _ _ t105 true _ ?side1 ?side2 ?side3 ?side4 A15.out).mono ?_);(case side1=>repeat (first|exact (Kd.Qf HO119.out).2.2|(with_reducible refine Kd.C_alloc ?_ _)|(with_reducible refine Kd.C_drewN ?_ _)|(with_reducible refine Kd.C_drew ?_)));(case side2=>exact (Kd.Qf HO119.out).2.1);(case side3=>repeat (first|exact (Kd.Qf HO109.out).2.2|(with_reducible refine Kd.C_alloc ?_ _)|(with_reducible refine Kd.C_drewN ?_ _)|(with_reducible refine Kd.C_drew ?_)));(case side4=>exact (Kd.Qf HO109.out).2.1);rintro e w' ⟨rfl,⟨nd,rfl⟩⟩;refine ⟨_,rfl,?_⟩;obtain ⟨Ao21,co21,eo21⟩:=Kd.R_slice HO121.out;subst eo21;obtain ⟨Ao22,co22,eo22⟩:=Kd.R_slice HO111.out;subst eo22)|(go_at_call 61;(with_reducible refine (laws_eqIntS.calls k _ _ t116 _ _ t106 true _ ?side1 ?side2 ?side3 ?side4 A17.out).mono ?_);(case side1=>repeat (first|exact (Kd.Qf HO121.out).2.2|(with_reducible refine Kd.C_alloc ?_ _)|(with_reducible refine Kd.C_drewN ?_ _)|(with_reducible refine Kd.C_drew ?_)));(case side2=>exact (Kd.Qf HO121.out).2.1);(case side3=>repeat (first|exact (Kd.Qf HO111.out).2.2|(with_reducible refine Kd.C_alloc ?_ _)|(with_reducible refine Kd.C_drewN ?_ _)|(with_reducible refine Kd.C_drew ?_)));(case side4=>exact (Kd.Qf HO111.out).2.1);rintro e w' ⟨rfl,⟨nd,rfl⟩⟩))
      go_meet
      case rel=>exact ⟨_,((t117 != t107)),(by first|rfl|(simp;done)|(simp [*];done)),H',⟨by first|omega|exact Nat.le_refl _⟩,⟨by (with_reducible repeat (first|apply Kd.Qd|apply Kd.Qe|apply Kd.R_drew));exact Kd.R_mono HO109.out (fun _ hk=>⟨hk.1.1,⟨hk.1.2,hk.2⟩⟩)⟩,⟨by (with_reducible repeat (first|apply Kd.Qd|apply Kd.Qe|apply Kd.R_drew));exact Kd.R_mono HO111.out (fun _ hk=>⟨hk.1.1,⟨hk.1.2,hk.2⟩⟩)⟩,⟨by (with_reducible repeat (first|apply Kd.S_alloc|apply Kd.S_drewN|apply Kd.S_drew));exact Kd.S_mono HO114.out (fun _ hk=>trivial)⟩,⟨by (with_reducible repeat (first|apply Kd.Qd|apply Kd.Qe|apply Kd.R_drew));exact Kd.R_mono HO119.out (fun _ hk=>⟨hk.1.2,⟨hk.2,hk.1.1⟩⟩)⟩,⟨by (with_reducible repeat (first|apply Kd.Qd|apply Kd.Qe|apply Kd.R_drew));exact Kd.R_mono HO121.out (fun _ hk=>⟨hk.1.2,⟨hk.2,hk.1.1⟩⟩)⟩,⟨by repeat (first|(with_reducible first|exact HB.out|apply Qb|apply Qa|apply Qc)|exact HB.out)⟩⟩
     ·replace c18:=Bool.eq_false_iff.mpr c18;subst c18;have H1:(laws_FnExactCoverOf.j0 k l0 t105 t106 t107 t112 t115 t116 t117 true)=some r:=by rw [if_neg (show ¬ (false=true) by decide)] at H;exact H
      clear H;have H:=H1;clear H1;have H':=aM H;clear H;obtain ⟨Ao23,co23,eo23⟩:=Kd.R_slice HO119.out;subst eo23;obtain ⟨Ao24,co24,eo24⟩:=Kd.R_slice HO109.out;subst eo24;go_wp2_with (first|((with_reducible refine Qg (f:=61) rfl ?_);refine goesL_ (some 39) rfl rfl Try.func61 (by kernel_rfl) rfl #[.slice Ao23 t115.length co23,.slice Ao24 t105.length co24] rfl (by (try simp only [aD,aE,aF]);first|done|rfl|(simp only [aG,aH];rfl)) ?_;(with_reducible refine (laws_eqIntS.calls k _ _ t115 _ _ t105 true _ ?side1 ?side2 ?side3 ?side4 A15.out).mono ?_);(case side1=>repeat (first|exact (Kd.Qf HO119.out).2.2|(with_reducible refine Kd.C_alloc ?_ _)|(with_reducible refine Kd.C_drewN ?_ _)|(with_reducible refine Kd.C_drew ?_)));(case side2=>exact (Kd.Qf HO119.out).2.1);(case side3=>repeat (first|exact (Kd.Qf HO109.out).2.2|(with_reducible refine Kd.C_alloc ?_ _)|(with_reducible refine Kd.C_drewN ?_ _)|(with_reducible refine Kd.C_drew ?_)));(case side4=>exact (Kd.Qf HO109.out).2.1);rintro e w' ⟨rfl,⟨nd,rfl⟩⟩;refine ⟨_,rfl,?_⟩;obtain ⟨Ao25,co25,eo25⟩:=Kd.R_slice HO121.out;subst eo25;obtain ⟨Ao26,co26,eo26⟩:=Kd.R_slice HO111.out;subst eo26)|(go_at_call 61;(with_reducible refine (laws_eqIntS.calls k _ _ t116 _ _ t106 false _ ?side1 ?side2 ?side3 ?side4 A17.out).mono ?_);(case side1=>repeat (first|exact (Kd.Qf HO121.out).2.2|(with_reducible refine Kd.C_alloc ?_ _)|(with_reducible refine Kd.C_drewN ?_ _)|(with_reducible refine Kd.C_drew ?_)));(case side2=>exact (Kd.Qf HO121.out).2.1);(case side3=>repeat (first|exact (Kd.Qf HO111.out).2.2|(with_reducible refine Kd.C_alloc ?_ _)|(with_reducible refine Kd.C_drewN ?_ _)|(with_reducible refine Kd.C_drew ?_)));(case side4=>exact (Kd.Qf HO111.out).2.1);rintro e w' ⟨rfl,⟨nd,rfl⟩⟩))
      go_meet
      case rel=>exact ⟨_,(true),(by first|rfl|(simp;done)|(simp [*];done)),H',⟨by first|omega|exact Nat.le_refl _⟩,⟨by (with_reducible repeat (first|apply Kd.Qd|apply Kd.Qe|apply Kd.R_drew));exact Kd.R_mono HO109.out (fun _ hk=>⟨hk.1.1,⟨hk.1.2,hk.2⟩⟩)⟩,⟨by (with_reducible repeat (first|apply Kd.Qd|apply Kd.Qe|apply Kd.R_drew));exact Kd.R_mono HO111.out (fun _ hk=>⟨hk.1.1,⟨hk.1.2,hk.2⟩⟩)⟩,⟨by (with_reducible repeat (first|apply Kd.S_alloc|apply Kd.S_drewN|apply Kd.S_drew));exact Kd.S_mono HO114.out (fun _ hk=>trivial)⟩,⟨by (with_reducible repeat (first|apply Kd.Qd|apply Kd.Qe|apply Kd.R_drew));exact Kd.R_mono HO119.out (fun _ hk=>⟨hk.1.2,⟨hk.2,hk.1.1⟩⟩)⟩,⟨by (with_reducible repeat (first|apply Kd.Qd|apply Kd.Qe|apply Kd.R_drew));exact Kd.R_mono HO121.out (fun _ hk=>⟨hk.1.2,⟨hk.2,hk.1.1⟩⟩)⟩,⟨by repeat (first|(with_reducible first|exact HB.out|apply Qb|apply Qa|apply Qc)|exact HB.out)⟩⟩
    ·replace c16:=Bool.eq_false_iff.mpr c16;subst c16;have H1:(laws_FnExactCoverOf.j0 k l0 t105 t106 t107 t112 t115 t116 t117 true)=some r:=by rw [if_neg (show ¬ (false=true) by decide)] at H;exact H
     clear H;have H:=H1;clear H1;have H':=aM H;clear H;obtain ⟨Ao27,co27,eo27⟩:=Kd.R_slice HO119.out;subst eo27;obtain ⟨Ao28,co28,eo28⟩:=Kd.R_slice HO109.out;subst eo28;go_wp2_with (first|((with_reducible refine Qg (f:=61) rfl ?_);refine goesL_ (some 39) rfl rfl Try.func61 (by kernel_rfl) rfl #[.slice Ao27 t115.length co27,.slice Ao28 t105.length co28] rfl (by (try simp only [aD,aE,aF]);first|done|rfl|(simp only [aG,aH];rfl)) ?_;(with_reducible refine (laws_eqIntS.calls k _ _ t115 _ _ t105 false _ ?side1 ?side2 ?side3 ?side4 A15.out).mono ?_);(case side1=>repeat (first|exact (Kd.Qf HO119.out).2.2|(with_reducible refine Kd.C_alloc ?_ _)|(with_reducible refine Kd.C_drewN ?_ _)|(with_reducible refine Kd.C_drew ?_)));(case side2=>exact (Kd.Qf HO119.out).2.1);(case side3=>repeat (first|exact (Kd.Qf HO109.out).2.2|(with_reducible refine Kd.C_alloc ?_ _)|(with_reducible refine Kd.C_drewN ?_ _)|(with_reducible refine Kd.C_drew ?_)));(case side4=>exact (Kd.Qf HO109.out).2.1);rintro e w' ⟨rfl,⟨nd,rfl⟩⟩;refine ⟨_,rfl,?_⟩))
     go_meet
     case rel=>exact ⟨_,(true),(by first|rfl|(simp;done)|(simp [*];done)),H',⟨by first|omega|exact Nat.le_refl _⟩,⟨by (with_reducible repeat (first|apply Kd.Qd|apply Kd.Qe|apply Kd.R_drew));exact Kd.R_mono HO109.out (fun _ hk=>⟨hk.1.1,⟨hk.1.2,hk.2⟩⟩)⟩,⟨by (with_reducible repeat (first|apply Kd.Qd|apply Kd.Qe|apply Kd.R_drew));exact Kd.R_mono HO111.out (fun _ hk=>⟨hk.1.1,⟨hk.1.2,hk.2⟩⟩)⟩,⟨by (with_reducible repeat (first|apply Kd.S_alloc|apply Kd.S_drewN|apply Kd.S_drew));exact Kd.S_mono HO114.out (fun _ hk=>trivial)⟩,⟨by (with_reducible repeat (first|apply Kd.Qd|apply Kd.Qe|apply Kd.R_drew));exact Kd.R_mono HO119.out (fun _ hk=>⟨hk.1.2,⟨hk.2,hk.1.1⟩⟩)⟩,⟨by (with_reducible repeat (first|apply Kd.Qd|apply Kd.Qe|apply Kd.R_drew));exact Kd.R_mono HO121.out (fun _ hk=>⟨hk.1.2,⟨hk.2,hk.1.1⟩⟩)⟩,⟨by repeat (first|(with_reducible first|exact HB.out|apply Qb|apply Qa|apply Qc)|exact HB.out)⟩⟩
   case rest=>
    clear HC8;(try clear c1);(try clear p2);(try clear c3);(try clear c3b0);(try clear c5);(try clear c6);(try clear c7);(try clear c9);(try clear c16);(try clear c18);obtain ⟨kq,x51_7,rfl,HA,HJ7,HO_4,HO_5,HO_7,HO_8,HO_9,HB⟩:=hcut
    cases kq with
    |zero=>exact absurd HA.out (by simp [laws_FnExactCoverOf.j0])
    |succ kj7=>
     have H:=HA.out;clear HA;simp only [laws_FnExactCoverOf.j0] at H;by_cases c29:x51_7=true
     ·subst c29;have H1:(some false)=some r:=by rw [if_pos rfl] at H;exact H
      clear H;have H:=H1;clear H1;obtain rfl:=Option.some.inj H;go_wp2
      go_ret
      exact ⟨by first|rfl|(simp [errW_none,errW_some] <;> rfl)|(simp [*,errW_none,errW_some] <;> rfl),by repeat (first|(with_reducible first|exact HB.out|apply Qb|apply Qa|apply Qc)|exact HB.out)⟩
     ·replace c29:=Bool.eq_false_iff.mpr c29;subst c29;have H1:((laws_toBoolSS.f kj7 l0).bind fun t124=>((laws_eqBoolSS.f kj7 t112 t124).bind fun t127=>(if t127=true then ((laws_markBoolSS.f kj7 t112 1).bind fun bt128=>(if bt128.1<0 then (laws_FnExactCoverOf.j1 kj7 l0 t105 t106 t107 t115 t116 true) else ((laws_eqIntS.f kj7 t115 t105).bind fun t130=>(if t130=true then ((laws_eqIntS.f kj7 t116 t106).bind fun t131=>(if t131=true then (laws_FnExactCoverOf.j1 kj7 l0 t105 t106 t107 t115 t116 (t117 != t107)) else (laws_FnExactCoverOf.j1 kj7 l0 t105 t106 t107 t115 t116 true))) else (laws_FnExactCoverOf.j1 kj7 l0 t105 t106 t107 t115 t116 true))))) else (some false))))=some r:=by rw [if_neg (show ¬ (false=true) by decide)] at H;exact H
      clear H;have H:=H1;clear H1;replace H:=Option.bind_eq_some_iff.mp H;obtain ⟨t124,A300,H⟩:=H;replace H:((laws_eqBoolSS.f kj7 t112 t124).bind fun t127=>(if t127=true then ((laws_markBoolSS.f kj7 t112 1).bind fun bt128=>(if bt128.1<0 then (laws_FnExactCoverOf.j1 kj7 l0 t105 t106 t107 t115 t116 true) else ((laws_eqIntS.f kj7 t115 t105).bind fun t130=>(if t130=true then ((laws_eqIntS.f kj7 t116 t106).bind fun t131=>(if t131=true then (laws_FnExactCoverOf.j1 kj7 l0 t105 t106 t107 t115 t116 (t117 != t107)) else (laws_FnExactCoverOf.j1 kj7 l0 t105 t106 t107 t115 t116 true))) else (laws_FnExactCoverOf.j1 kj7 l0 t105 t106 t107 t115 t116 true))))) else (some false)))=some r:=H;have A30:=aM A300;clear A300;replace H:=Option.bind_eq_some_iff.mp H;obtain ⟨t127,A310,H⟩:=H;replace H:(if t127=true then ((laws_markBoolSS.f kj7 t112 1).bind fun bt128=>(if bt128.1<0 then (laws_FnExactCoverOf.j1 kj7 l0 t105 t106 t107 t115 t116 true) else ((laws_eqIntS.f kj7 t115 t105).bind fun t130=>(if t130=true then ((laws_eqIntS.f kj7 t116 t106).bind fun t131=>(if t131=true then (laws_FnExactCoverOf.j1 kj7 l0 t105 t106 t107 t115 t116 (t117 != t107)) else (laws_FnExactCoverOf.j1 kj7 l0 t105 t106 t107 t115 t116 true))) else (laws_FnExactCoverOf.j1 kj7 l0 t105 t106 t107 t115 t116 true))))) else (some false))=some r:=H;have A31:=aM A310;clear A310;by_cases c32:t127=true
      ·subst c32;have H1:((laws_markBoolSS.f kj7 t112 1).bind fun bt128=>(if bt128.1<0 then (laws_FnExactCoverOf.j1 kj7 l0 t105 t106 t107 t115 t116 true) else ((laws_eqIntS.f kj7 t115 t105).bind fun t130=>(if t130=true then ((laws_eqIntS.f kj7 t116 t106).bind fun t131=>(if t131=true then (laws_FnExactCoverOf.j1 kj7 l0 t105 t106 t107 t115 t116 (t117 != t107)) else (laws_FnExactCoverOf.j1 kj7 l0 t105 t106 t107 t115 t116 true))) else (laws_FnExactCoverOf.j1 kj7 l0 t105 t106 t107 t115 t116 true)))))=some r:=by rw [if_pos rfl] at H;exact H
       clear H;have H:=H1;clear H1;replace H:=Option.bind_eq_some_iff.mp H;obtain ⟨⟨t128,t129⟩,A330,H⟩:=H;replace H:(if t128<0 then (laws_FnExactCoverOf.j1 kj7 l0 t105 t106 t107 t115 t116 true) else ((laws_eqIntS.f kj7 t115 t105).bind fun t130=>(if t130=true then ((laws_eqIntS.f kj7 t116 t106).bind fun t131=>(if t131=true then (laws_FnExactCoverOf.j1 kj7 l0 t105 t106 t107 t115 t116 (t117 != t107)) else (laws_FnExactCoverOf.j1 kj7 l0 t105 t106 t107 t115 t116 true))) else (laws_FnExactCoverOf.j1 kj7 l0 t105 t106 t107 t115 t116 true))))=some r:=H;have A33:=aM A330;clear A330;have HC34:=aM H;clear H
       go_upto_region 14 with (first|((with_reducible refine Qg (f:=59) rfl ?_);refine goesL_ (some 54) rfl rfl Try.func59 (by kernel_rfl) rfl #[.slice A0 l0.length c0] rfl (by (try simp only [aD,aE,aF]);first|done|rfl|(simp only [aG,aH];rfl)) ?_;(with_reducible refine (laws_toBoolSS.calls kj7 _ _ l0 t124 _ ?side1 ?side2 A30.out).mono ?_);(case side1=>repeat (first|exact (Kd.C_below HR0.out HB.out)|(with_reducible refine Kd.C_alloc ?_ _)|(with_reducible refine Kd.C_drewN ?_ _)|(with_reducible refine Kd.C_drew ?_)));(case side2=>exact HC0.out);rintro e w35 ⟨v125,rfl,ho0,hb⟩;refine ⟨_,rfl,?_⟩;have n0_:=aM (Kd.R_below (by (with_reducible repeat (first|apply Kd.Qd|apply Kd.Qe|apply Kd.R_drew));exact HO_4.out) hb);have n1_:=aM (Kd.R_below (by (with_reducible repeat (first|apply Kd.Qd|apply Kd.Qe|apply Kd.R_drew));exact HO_5.out) hb);have n2_:=aM (Kd.S_elder' (by (with_reducible repeat (first|apply Kd.S_alloc|apply Kd.S_drewN|apply Kd.S_drew));exact HO_7.out) (Kd.S_base ho0) hb);have n3_:=aM (Kd.R_below (by (with_reducible repeat (first|apply Kd.Qd|apply Kd.Qe|apply Kd.R_drew));exact HO_8.out) hb);have n4_:=aM (Kd.R_below (by (with_reducible repeat (first|apply Kd.Qd|apply Kd.Qe|apply Kd.R_drew));exact HO_9.out) hb);have n5_:=aM (Kd.S_lower (Kd.S_new' ho0 (Kd.S_lt (by (with_reducible repeat (first|apply Kd.S_alloc|apply Kd.S_drewN|apply Kd.S_drew));exact HO_7.out))) (below_size (by repeat (first|(with_reducible first|exact HB.out|apply Qb|apply Qa|apply Qc)|exact HB.out))));have n6_:=aM (below_step (by repeat (first|(with_reducible first|exact HB.out|apply Qb|apply Qa|apply Qc)|exact HB.out)) hb);clear HO_4;clear HO_5;clear HO_7;clear HO_8;clear HO_9;clear HB;have HO_4:=n0_;have HO_5:=n1_;have HO_7:=n2_;have HO_8:=n3_;have HO_9:=n4_;have HO126:=n5_;have HB:=n6_;clear n0_ n1_ n2_ n3_ n4_ n5_ n6_;(try clear hb);(try clear hb2);(try clear hk);(try clear hi);(try clear ho0);obtain ⟨Ao36,co36,eo36⟩:=Kd.S_slice HO126.out;subst eo36)|((with_reducible refine Qg (f:=62) rfl ?_);refine goesL_ (some 55) rfl rfl Try.func62 (by kernel_rfl) rfl #[.slice Ao13 t112.length co13,.slice Ao36 t124.length co36] rfl (by (try simp only [aD,aE,aF]);first|done|rfl|(simp only [aG,aH];rfl)) ?_;(with_reducible refine (laws_eqBoolSS.calls kj7 _ _ t112 _ _ t124 true _ ?side1 ?side2 ?side3 ?side4 A31.out).mono ?_);(case side1=>repeat (first|exact (Kd.S_reads' HO_7.out).2.2|(with_reducible refine Kd.C_alloc ?_ _)|(with_reducible refine Kd.C_drewN ?_ _)|(with_reducible refine Kd.C_drew ?_)));(case side2=>exact (Kd.S_reads' HO_7.out).2.1);(case side3=>repeat (first|exact (Kd.S_reads' HO126.out).2.2|(with_reducible refine Kd.C_alloc ?_ _)|(with_reducible refine Kd.C_drewN ?_ _)|(with_reducible refine Kd.C_drew ?_)));(case side4=>exact (Kd.S_reads' HO126.out).2.1);rintro e w' ⟨rfl,⟨nd,rfl⟩⟩;refine ⟨_,rfl,?_⟩;obtain ⟨Qh37,hqs_,hqo_,hqt_,hqb_⟩:=Kd.S_named HO_7.out;have Qh37S:=aM hqs_;have Qh37O:=aM hqo_;have Qh37T:=aM hqt_;have Qh37B:=aM hqb_;clear hqs_ hqo_ hqt_ hqb_)|((with_reducible refine Qg (f:=63) rfl ?_);refine goesL_ (some 59) rfl rfl Try.func63 (by kernel_rfl) rfl #[.slice Ao13 t112.length co13,.int .i64 1] rfl (by (try simp only [aD,aE,aF]);first|done|rfl|(simp only [aG,aH];rfl)) ?_;(with_reducible refine (laws_markBoolSS.calls kj7 Qh37 (.slice Ao13 t112.length co13) t112 1 t128 t129 w _ ?side1 ?side2 A33.out).mono ?_);(case side1=>repeat (first|(with_reducible first|exact HB.out|apply Qb|apply Qa|apply Qc)|exact HB.out));(case side2=>exact Qh37S.out);rintro e w38 ⟨rfl,hy0,hb,hkp⟩;refine ⟨_,rfl,?_⟩;have n0_:=aM (Kd.R_mono (ok':=fun k_=>some k_≠(v110:Value).ownBlock∧some k_≠(v118:Value).ownBlock∧some k_≠(v120:Value).ownBlock) (Kd.R_keptB ((Kd.R_apartQ HO_4.out Qh37T.out (by decide))) hkp (fun k_ hk_ hs_=>(hk_.2) hs_)) (fun k_ hk_=>⟨hk_.1.1.1,hk_.1.1.2.1,hk_.1.1.2.2⟩));have n1_:=aM (Kd.R_mono (ok':=fun k_=>some k_≠(v108:Value).ownBlock∧some k_≠(v118:Value).ownBlock∧some k_≠(v120:Value).ownBlock) (Kd.R_keptB ((Kd.R_apartQ HO_5.out Qh37T.out (by decide))) hkp (fun k_ hk_ hs_=>(hk_.2) hs_)) (fun k_ hk_=>⟨hk_.1.1.1,hk_.1.1.2.1,hk_.1.1.2.2⟩));have n2_:=aM (Kd.S_mono (ok':=fun k_=>some k_≠(.slice Ao36 t124.length co36:Value).ownBlock) hy0 (fun k_ h_=>Or.elim h_ (fun hq_=>((Qh37O.out k_ hq_).2)) (fun hn_=>(fun e_=>(Kd.S_ltB HO126.out hn_) e_))));have n3_:=aM (Kd.R_mono (ok':=fun k_=>some k_≠(v108:Value).ownBlock∧some k_≠(v110:Value).ownBlock∧some k_≠(v120:Value).ownBlock) (Kd.R_keptB ((Kd.R_apartQ HO_8.out Qh37T.out (by decide))) hkp (fun k_ hk_ hs_=>(hk_.2) hs_)) (fun k_ hk_=>⟨hk_.1.1.1,hk_.1.1.2.1,hk_.1.1.2.2⟩));have n4_:=aM (Kd.R_mono (ok':=fun k_=>some k_≠(v108:Value).ownBlock∧some k_≠(v110:Value).ownBlock∧some k_≠(v118:Value).ownBlock) (Kd.R_keptB ((Kd.R_apartQ HO_9.out Qh37T.out (by decide))) hkp (fun k_ hk_ hs_=>(hk_.2) hs_)) (fun k_ hk_=>⟨hk_.1.1.1,hk_.1.1.2.1,hk_.1.1.2.2⟩));have n5_:=aM (hb);clear HO_4;clear HO_5;clear HO_7;clear HO_8;clear HO_9;clear HB;clear HO126;have HO_4:=n0_;have HO_5:=n1_;have HO_7:=n2_;have HO_8:=n3_;have HO_9:=n4_;have HB:=n5_;clear n0_ n1_ n2_ n3_ n4_ n5_;(try clear hb);(try clear hkp);(try clear hy0)))
       (try simp only [Act.put,aA,aB,aC])
       go_cut [78] (fun v78 wc=>∃ (kq:Nat) (x78_33:Bool),v78= .bool x78_33∧Aside0 (laws_FnExactCoverOf.j1 kq l0 t105 t106 t107 t115 t116 x78_33=some r)∧Aside0 (kq≤kj7)∧Aside0 (Kd.R (Kd.int .i64) 3 wc w.heap.size (fun k_=>some k_≠(v110:Value).ownBlock∧some k_≠(v118:Value).ownBlock∧some k_≠(v120:Value).ownBlock) v108 t105)∧Aside0 (Kd.R (Kd.int .i64) 3 wc w.heap.size (fun k_=>some k_≠(v108:Value).ownBlock∧some k_≠(v118:Value).ownBlock∧some k_≠(v120:Value).ownBlock) v110 t106)∧Aside0 (Kd.R (Kd.int .i64) 3 wc w.heap.size (fun k_=>some k_≠(v108:Value).ownBlock∧some k_≠(v110:Value).ownBlock∧some k_≠(v120:Value).ownBlock) v118 t115)∧Aside0 (Kd.R (Kd.int .i64) 3 wc w.heap.size (fun k_=>some k_≠(v108:Value).ownBlock∧some k_≠(v110:Value).ownBlock∧some k_≠(v118:Value).ownBlock) v120 t116)∧Aside0 (Below w.heap.size w wc))
       case first=>
        have H:=HC34.out;clear HC34;by_cases c39:t128<0
        ·rw [if_pos c39] at H;have c39b0:decide (t128<0)=true:=decide_eq_true c39;clear c39
         (first|rw [c39b0]|(simp only [i64_w,i32_w];rw [c39b0])|skip)
         have H':=aM H;clear H;go_wp2
         go_meet
         case rel=>exact ⟨_,(true),(by first|rfl|(simp;done)|(simp [*];done)),H',⟨by have:=HJ7.out;first|omega|exact Nat.le_refl _⟩,⟨by (with_reducible repeat (first|apply Kd.Qd|apply Kd.Qe|apply Kd.R_drew));exact HO_4.out⟩,⟨by (with_reducible repeat (first|apply Kd.Qd|apply Kd.Qe|apply Kd.R_drew));exact HO_5.out⟩,⟨by (with_reducible repeat (first|apply Kd.Qd|apply Kd.Qe|apply Kd.R_drew));exact HO_8.out⟩,⟨by (with_reducible repeat (first|apply Kd.Qd|apply Kd.Qe|apply Kd.R_drew));exact HO_9.out⟩,⟨by repeat (first|(with_reducible first|exact HB.out|apply Qb|apply Qa|apply Qc)|exact HB.out)⟩⟩
        ·rw [if_neg c39] at H;have c39b0:decide (t128<0)=false:=decide_eq_false c39;clear c39
         (first|rw [c39b0]|(simp only [i64_w,i32_w];rw [c39b0])|skip)
         replace H:=Option.bind_eq_some_iff.mp H;obtain ⟨t130,A400,H⟩:=H;replace H:(if t130=true then ((laws_eqIntS.f kj7 t116 t106).bind fun t131=>(if t131=true then (laws_FnExactCoverOf.j1 kj7 l0 t105 t106 t107 t115 t116 (t117 != t107)) else (laws_FnExactCoverOf.j1 kj7 l0 t105 t106 t107 t115 t116 true))) else (laws_FnExactCoverOf.j1 kj7 l0 t105 t106 t107 t115 t116 true))=some r:=H;have A40:=aM A400;clear A400;by_cases c41:t130=true
         ·subst c41;have H1:((laws_eqIntS.f kj7 t116 t106).bind fun t131=>(if t131=true then (laws_FnExactCoverOf.j1 kj7 l0 t105 t106 t107 t115 t116 (t117 != t107)) else (laws_FnExactCoverOf.j1 kj7 l0 t105 t106 t107 t115 t116 true)))=some r:=by rw [if_pos rfl] at H;exact H
          clear H;have H:=H1;clear H1;replace H:=Option.bind_eq_some_iff.mp H;obtain ⟨t131,A420,H⟩:=H;replace H:(if t131=true then (laws_FnExactCoverOf.j1 kj7 l0 t105 t106 t107 t115 t116 (t117 != t107)) else (laws_FnExactCoverOf.j1 kj7 l0 t105 t106 t107 t115 t116 true))=some r:=H;have A42:=aM A420;clear A420;by_cases c43:t131=true
          ·subst c43;have H1:(laws_FnExactCoverOf.j1 kj7 l0 t105 t106 t107 t115 t116 (t117 != t107))=some r:=by rw [if_pos rfl] at H;exact H
           clear H;have H:=H1;clear H1;have H':=aM H;clear H;obtain ⟨Ao44,co44,eo44⟩:=Kd.R_slice HO_8.out;subst eo44;obtain ⟨Ao45,co45,eo45⟩:=Kd.R_slice HO_4.out;subst eo45;go_wp2_with (first|(go_at_call 61;(with_reducible refine (laws_eqIntS.calls kj7 _ _ t115 _ _ t105 true _ ?side1 ?side2 ?side3 ?side4 A40.out).mono ?_);(case side1=>repeat (first|exact (Kd.Qf HO_8.out).2.2|(with_reducible refine Kd.C_alloc ?_ _)|(with_reducible refine Kd.C_drewN ?_ _)|(with_reducible refine Kd.C_drew ?_)));(case side2=>exact (Kd.Qf HO_8.out).2.1);(case side3=>repeat (first|exact (Kd.Qf HO_4.out).2.2|(with_reducible refine Kd.C_alloc ?_ _)|(with_reducible refine Kd.C_drewN ?_ _)|(with_reducible refine Kd.C_drew ?_)));(case side4=>exact (Kd.Qf HO_4.out).2.1);rintro e w' ⟨rfl,⟨nd,rfl⟩⟩;obtain ⟨Ao46,co46,eo46⟩:=Kd.R_slice HO_9.out;subst eo46;obtain ⟨Ao47,co47,eo47⟩:=Kd.R_slice HO_5.out;subst eo47)|(go_at_call 61;(with_reducible refine (laws_eqIntS.calls kj7 _ _ t116 _ _ t106 true _ ?side1 ?side2 ?side3 ?side4 A42.out).mono ?_);(case side1=>repeat (first|exact (Kd.Qf HO_9.out).2.2|(with_reducible refine Kd.C_alloc ?_ _)|(with_reducible refine Kd.C_drewN ?_ _)|(with_reducible refine Kd.C_drew ?_)));(case side2=>exact (Kd.Qf HO_9.out).2.1);(case side3=>repeat (first|exact (Kd.Qf HO_5.out).2.2|(with_reducible refine Kd.C_alloc ?_ _)|(with_reducible refine Kd.C_drewN ?_ _)|(with_reducible refine Kd.C_drew ?_)));(case side4=>exact (Kd.Qf HO_5.out).2.1);rintro e w' ⟨rfl,⟨nd,rfl⟩⟩))
           go_meet
           case rel=>exact ⟨_,((t117 != t107)),(by first|rfl|(simp;done)|(simp [*];done)),H',⟨by have:=HJ7.out;first|omega|exact Nat.le_refl _⟩,⟨by (with_reducible repeat (first|apply Kd.Qd|apply Kd.Qe|apply Kd.R_drew));exact HO_4.out⟩,⟨by (with_reducible repeat (first|apply Kd.Qd|apply Kd.Qe|apply Kd.R_drew));exact HO_5.out⟩,⟨by (with_reducible repeat (first|apply Kd.Qd|apply Kd.Qe|apply Kd.R_drew));exact HO_8.out⟩,⟨by (with_reducible repeat (first|apply Kd.Qd|apply Kd.Qe|apply Kd.R_drew));exact HO_9.out⟩,⟨by repeat (first|(with_reducible first|exact HB.out|apply Qb|apply Qa|apply Qc)|exact HB.out)⟩⟩
          ·replace c43:=Bool.eq_false_iff.mpr c43;subst c43;have H1:(laws_FnExactCoverOf.j1 kj7 l0 t105 t106 t107 t115 t116 true)=some r:=by rw [if_neg (show ¬ (false=true) by decide)] at H;exact H
           clear H;have H:=H1;clear H1;have H':=aM H;clear H;obtain ⟨Ao48,co48,eo48⟩:=Kd.R_slice HO_8.out;subst eo48;obtain ⟨Ao49,co49,eo49⟩:=Kd.R_slice HO_4.out;subst eo49;go_wp2_with (first|(go_at_call 61;(with_reducible refine (laws_eqIntS.calls kj7 _ _ t115 _ _ t105 true _ ?side1 ?side2 ?side3 ?side4 A40.out).mono ?_);(case side1=>repeat (first|exact (Kd.Qf HO_8.out).2.2|(with_reducible refine Kd.C_alloc ?_ _)|(with_reducible refine Kd.C_drewN ?_ _)|(with_reducible refine Kd.C_drew ?_)));(case side2=>exact (Kd.Qf HO_8.out).2.1);(case side3=>repeat (first|exact (Kd.Qf HO_4.out).2.2|(with_reducible refine Kd.C_alloc ?_ _)|(with_reducible refine Kd.C_drewN ?_ _)|(with_reducible refine Kd.C_drew ?_)));(case side4=>exact (Kd.Qf HO_4.out).2.1);rintro e w' ⟨rfl,⟨nd,rfl⟩⟩;obtain ⟨Ao50,co50,eo50⟩:=Kd.R_slice HO_9.out;subst eo50;obtain ⟨Ao51,co51,eo51⟩:=Kd.R_slice HO_5.out;subst eo51)|(go_at_call 61;(with_reducible refine (laws_eqIntS.calls kj7 _ _ t116 _ _ t106 false _ ?side1 ?side2 ?side3 ?side4 A42.out).mono ?_);(case side1=>repeat (first|exact (Kd.Qf HO_9.out).2.2|(with_reducible refine Kd.C_alloc ?_ _)|(with_reducible refine Kd.C_drewN ?_ _)|(with_reducible refine Kd.C_drew ?_)));(case side2=>exact (Kd.Qf HO_9.out).2.1);(case side3=>repeat (first|exact (Kd.Qf HO_5.out).2.2|(with_reducible refine Kd.C_alloc ?_ _)|(with_reducible refine Kd.C_drewN ?_ _)|(with_reducible refine Kd.C_drew ?_)));(case side4=>exact (Kd.Qf HO_5.out).2.1);rintro e w' ⟨rfl,⟨nd,rfl⟩⟩))
           go_meet
           case rel=>exact ⟨_,(true),(by first|rfl|(simp;done)|(simp [*];done)),H',⟨by have:=HJ7.out;first|omega|exact Nat.le_refl _⟩,⟨by (with_reducible repeat (first|apply Kd.Qd|apply Kd.Qe|apply Kd.R_drew));exact HO_4.out⟩,⟨by (with_reducible repeat (first|apply Kd.Qd|apply Kd.Qe|apply Kd.R_drew));exact HO_5.out⟩,⟨by (with_reducible repeat (first|apply Kd.Qd|apply Kd.Qe|apply Kd.R_drew));exact HO_8.out⟩,⟨by (with_reducible repeat (first|apply Kd.Qd|apply Kd.Qe|apply Kd.R_drew));exact HO_9.out⟩,⟨by repeat (first|(with_reducible first|exact HB.out|apply Qb|apply Qa|apply Qc)|exact HB.out)⟩⟩
         ·replace c41:=Bool.eq_false_iff.mpr c41;subst c41;have H1:(laws_FnExactCoverOf.j1 kj7 l0 t105 t106 t107 t115 t116 true)=some r:=by rw [if_neg (show ¬ (false=true) by decide)] at H;exact H
          clear H;have H:=H1;clear H1;have H':=aM H;clear H;obtain ⟨Ao52,co52,eo52⟩:=Kd.R_slice HO_8.out;subst eo52;obtain ⟨Ao53,co53,eo53⟩:=Kd.R_slice HO_4.out;subst eo53;go_wp2_with (first|(go_at_call 61;(with_reducible refine (laws_eqIntS.calls kj7 _ _ t115 _ _ t105 false _ ?side1 ?side2 ?side3 ?side4 A40.out).mono ?_);(case side1=>repeat (first|exact (Kd.Qf HO_8.out).2.2|(with_reducible refine Kd.C_alloc ?_ _)|(with_reducible refine Kd.C_drewN ?_ _)|(with_reducible refine Kd.C_drew ?_)));(case side2=>exact (Kd.Qf HO_8.out).2.1);(case side3=>repeat (first|exact (Kd.Qf HO_4.out).2.2|(with_reducible refine Kd.C_alloc ?_ _)|(with_reducible refine Kd.C_drewN ?_ _)|(with_reducible refine Kd.C_drew ?_)));(case side4=>exact (Kd.Qf HO_4.out).2.1);rintro e w' ⟨rfl,⟨nd,rfl⟩⟩))
          go_meet
          case rel=>exact ⟨_,(true),(by first|rfl|(simp;done)|(simp [*];done)),H',⟨by have:=HJ7.out;first|omega|exact Nat.le_refl _⟩,⟨by (with_reducible repeat (first|apply Kd.Qd|apply Kd.Qe|apply Kd.R_drew));exact HO_4.out⟩,⟨by (with_reducible repeat (first|apply Kd.Qd|apply Kd.Qe|apply Kd.R_drew));exact HO_5.out⟩,⟨by (with_reducible repeat (first|apply Kd.Qd|apply Kd.Qe|apply Kd.R_drew));exact HO_8.out⟩,⟨by (with_reducible repeat (first|apply Kd.Qd|apply Kd.Qe|apply Kd.R_drew));exact HO_9.out⟩,⟨by repeat (first|(with_reducible first|exact HB.out|apply Qb|apply Qa|apply Qc)|exact HB.out)⟩⟩
       case rest=>
        clear HC34;(try clear c1);(try clear c2);(try clear p2);(try clear c3);(try clear c3b0);(try clear c4);(try clear c5);(try clear c6);(try clear c7);(try clear c9);(try clear c16);(try clear c18);(try clear c29);(try clear c32);(try clear c39);(try clear c39b0);(try clear c41);(try clear c43);(try clear p2);obtain ⟨kq,x78_33,rfl,HA,HJ33,HO_4,HO_5,HO_8,HO_9,HB⟩:=hcut
        cases kq with
        |zero=>exact absurd HA.out (by simp [laws_FnExactCoverOf.j1])
        |succ kj33=>
         have H:=HA.out;clear HA;simp only [laws_FnExactCoverOf.j1] at H;by_cases c54:x78_33=true
         ·subst c54;have H1:(some false)=some r:=by rw [if_pos rfl] at H;exact H
          clear H;have H:=H1;clear H1;obtain rfl:=Option.some.inj H;go_wp2
          go_ret
          exact ⟨by first|rfl|(simp [errW_none,errW_some] <;> rfl)|(simp [*,errW_none,errW_some] <;> rfl),by repeat (first|(with_reducible first|exact HB.out|apply Qb|apply Qa|apply Qc)|exact HB.out)⟩
         ·replace c54:=Bool.eq_false_iff.mpr c54;subst c54;have H1:((laws_markIntS.f kj33 t115 1).bind fun bt132=>((laws_markIntS.f kj33 t116 bt132.1).bind fun bt134=>((laws_heldIntS.f kj33 bt132.2 1).bind fun t136=>(if t136<0 then (some false) else ((laws_heldIntS.f kj33 bt134.2 t136).bind fun t137=>(if t137<0 then (some false) else (if t137=bt134.1 then ((laws_toBoolSS.f kj33 l0).bind fun t138=>((impl_CoverOf.f kj33 t138).bind fun bt141=>((laws_eqIntS.f kj33 bt141.1 t105).bind fun t148=>(if t148=true then ((laws_eqIntS.f kj33 bt141.2.1 t106).bind fun t149=>(if t149=true then (laws_FnExactCoverOf.j2 kj33 bt132.2 bt134.2 bt134.1 (bt141.2.2 != t107)) else (laws_FnExactCoverOf.j2 kj33 bt132.2 bt134.2 bt134.1 true))) else (laws_FnExactCoverOf.j2 kj33 bt132.2 bt134.2 bt134.1 true))))) else (some false))))))))=some r:=by rw [if_neg (show ¬ (false=true) by decide)] at H;exact H
          clear H;have H:=H1;clear H1;replace H:=Option.bind_eq_some_iff.mp H;obtain ⟨⟨t132,t133⟩,A550,H⟩:=H;replace H:((laws_markIntS.f kj33 t116 t132).bind fun bt134=>((laws_heldIntS.f kj33 t133 1).bind fun t136=>(if t136<0 then (some false) else ((laws_heldIntS.f kj33 bt134.2 t136).bind fun t137=>(if t137<0 then (some false) else (if t137=bt134.1 then ((laws_toBoolSS.f kj33 l0).bind fun t138=>((impl_CoverOf.f kj33 t138).bind fun bt141=>((laws_eqIntS.f kj33 bt141.1 t105).bind fun t148=>(if t148=true then ((laws_eqIntS.f kj33 bt141.2.1 t106).bind fun t149=>(if t149=true then (laws_FnExactCoverOf.j2 kj33 t133 bt134.2 bt134.1 (bt141.2.2 != t107)) else (laws_FnExactCoverOf.j2 kj33 t133 bt134.2 bt134.1 true))) else (laws_FnExactCoverOf.j2 kj33 t133 bt134.2 bt134.1 true))))) else (some false)))))))=some r:=H;have A55:=aM A550;clear A550;replace H:=Option.bind_eq_some_iff.mp H;obtain ⟨⟨t134,t135⟩,A560,H⟩:=H;replace H:((laws_heldIntS.f kj33 t133 1).bind fun t136=>(if t136<0 then (some false) else ((laws_heldIntS.f kj33 t135 t136).bind fun t137=>(if t137<0 then (some false) else (if t137=t134 then ((laws_toBoolSS.f kj33 l0).bind fun t138=>((impl_CoverOf.f kj33 t138).bind fun bt141=>((laws_eqIntS.f kj33 bt141.1 t105).bind fun t148=>(if t148=true then ((laws_eqIntS.f kj33 bt141.2.1 t106).bind fun t149=>(if t149=true then (laws_FnExactCoverOf.j2 kj33 t133 t135 t134 (bt141.2.2 != t107)) else (laws_FnExactCoverOf.j2 kj33 t133 t135 t134 true))) else (laws_FnExactCoverOf.j2 kj33 t133 t135 t134 true))))) else (some false))))))=some r:=H;have A56:=aM A560;clear A560;replace H:=Option.bind_eq_some_iff.mp H;obtain ⟨t136,A570,H⟩:=H;replace H:(if t136<0 then (some false) else ((laws_heldIntS.f kj33 t135 t136).bind fun t137=>(if t137<0 then (some false) else (if t137=t134 then ((laws_toBoolSS.f kj33 l0).bind fun t138=>((impl_CoverOf.f kj33 t138).bind fun bt141=>((laws_eqIntS.f kj33 bt141.1 t105).bind fun t148=>(if t148=true then ((laws_eqIntS.f kj33 bt141.2.1 t106).bind fun t149=>(if t149=true then (laws_FnExactCoverOf.j2 kj33 t133 t135 t134 (bt141.2.2 != t107)) else (laws_FnExactCoverOf.j2 kj33 t133 t135 t134 true))) else (laws_FnExactCoverOf.j2 kj33 t133 t135 t134 true))))) else (some false)))))=some r:=H;have A57:=aM A570;clear A570;by_cases c58:t136<0
          ·rw [if_pos c58] at H;have c58b0:decide (t136<0)=true:=decide_eq_true c58;clear c58;obtain rfl:=Option.some.inj H;obtain ⟨Ao59,co59,eo59⟩:=Kd.R_slice HO_8.out;subst eo59;go_wp2_with (first|((with_reducible refine Qg (f:=64) rfl ?_);refine goesL_ (some 81) rfl rfl Try.func64 (by kernel_rfl) rfl #[.slice Ao59 t115.length co59,.int .i64 1] rfl (by (try simp only [aD,aE,aF]);first|done|rfl|(simp only [aG,aH];rfl)) ?_;(with_reducible refine (laws_markIntS.calls kj33 (fun k_=>some k_=(.slice Ao59 t115.length co59:Value).ownBlock) (.slice Ao59 t115.length co59) t115 1 t132 t133 w _ ?side1 ?side2 A55.out).mono ?_);(case side1=>repeat (first|(with_reducible first|exact HB.out|apply Qb|apply Qa|apply Qc)|exact HB.out));(case side2=>exact Kd.R_tight rfl HO_8.out);rintro e w60 ⟨rfl,hy0,hb,hkp⟩;refine ⟨_,rfl,?_⟩;have n0_:=aM (Kd.R_mono (ok':=fun k_=>some k_≠(v110:Value).ownBlock∧some k_≠(.slice Ao59 t115.length co59:Value).ownBlock∧some k_≠(v120:Value).ownBlock) (Kd.R_keptB (HO_4.out) hkp (fun k_ hk_ hs_=>(hk_.2.1) hs_)) (fun k_ hk_=>⟨hk_.1.1,hk_.1.2.1,hk_.1.2.2⟩));have n1_:=aM (Kd.R_mono (ok':=fun k_=>some k_≠(v108:Value).ownBlock∧some k_≠(.slice Ao59 t115.length co59:Value).ownBlock∧some k_≠(v120:Value).ownBlock) (Kd.R_keptB (HO_5.out) hkp (fun k_ hk_ hs_=>(hk_.2.1) hs_)) (fun k_ hk_=>⟨hk_.1.1,hk_.1.2.1,hk_.1.2.2⟩));have n2_:=aM (Kd.R_reok rfl hy0 (fun k_ e_=>HO_8.out.1 k_ e_));have n3_:=aM (Kd.R_mono (ok':=fun k_=>some k_≠(v108:Value).ownBlock∧some k_≠(v110:Value).ownBlock∧some k_≠(.slice Ao59 t115.length co59:Value).ownBlock) (Kd.R_keptB (HO_9.out) hkp (fun k_ hk_ hs_=>(hk_.2.2) hs_)) (fun k_ hk_=>⟨hk_.1.1,hk_.1.2.1,hk_.1.2.2⟩));have n4_:=aM (hb);clear HO_4;clear HO_5;clear HO_8;clear HO_9;clear HB;have HO_4:=n0_;have HO_5:=n1_;have HO_8:=n2_;have HO_9:=n3_;have HB:=n4_;clear n0_ n1_ n2_ n3_ n4_;(try clear hb);(try clear hkp);(try clear hy0);obtain ⟨Ao61,co61,eo61⟩:=Kd.R_slice HO_9.out;subst eo61)|((with_reducible refine Qg (f:=64) rfl ?_);refine goesL_ (some 84) rfl rfl Try.func64 (by kernel_rfl) rfl #[.slice Ao61 t116.length co61,.int .i64 t132] rfl (by (try simp only [aD,aE,aF]);first|done|rfl|(simp only [aG,aH];rfl)) ?_;(with_reducible refine (laws_markIntS.calls kj33 (fun k_=>some k_=(.slice Ao61 t116.length co61:Value).ownBlock) (.slice Ao61 t116.length co61) t116 t132 t134 t135 w _ ?side1 ?side2 A56.out).mono ?_);(case side1=>repeat (first|(with_reducible first|exact HB.out|apply Qb|apply Qa|apply Qc)|exact HB.out));(case side2=>exact Kd.R_tight rfl HO_9.out);rintro e w62 ⟨rfl,hy0,hb,hkp⟩;refine ⟨_,rfl,?_⟩;have n0_:=aM (Kd.R_mono (ok':=fun k_=>some k_≠(v110:Value).ownBlock∧some k_≠(.slice Ao59 t115.length co59:Value).ownBlock∧some k_≠(.slice Ao61 t116.length co61:Value).ownBlock) (Kd.R_keptB (HO_4.out) hkp (fun k_ hk_ hs_=>(hk_.2.2) hs_)) (fun k_ hk_=>⟨hk_.1.1,hk_.1.2.1,hk_.1.2.2⟩));have n1_:=aM (Kd.R_mono (ok':=fun k_=>some k_≠(v108:Value).ownBlock∧some k_≠(.slice Ao59 t115.length co59:Value).ownBlock∧some k_≠(.slice Ao61 t116.length co61:Value).ownBlock) (Kd.R_keptB (HO_5.out) hkp (fun k_ hk_ hs_=>(hk_.2.2) hs_)) (fun k_ hk_=>⟨hk_.1.1,hk_.1.2.1,hk_.1.2.2⟩));have n2_:=aM (Kd.R_mono (ok':=fun k_=>some k_≠(v108:Value).ownBlock∧some k_≠(v110:Value).ownBlock∧some k_≠(.slice Ao61 t116.length co61:Value).ownBlock) (Kd.R_keptB (HO_8.out) hkp (fun k_ hk_ hs_=>(hk_.2.2) hs_)) (fun k_ hk_=>⟨hk_.1.1,hk_.1.2.1,hk_.1.2.2⟩));have n3_:=aM (Kd.R_reok rfl hy0 (fun k_ e_=>HO_9.out.1 k_ e_));have n4_:=aM (hb);clear HO_4;clear HO_5;clear HO_8;clear HO_9;clear HB;have HO_4:=n0_;have HO_5:=n1_;have HO_8:=n2_;have HO_9:=n3_;have HB:=n4_;clear n0_ n1_ n2_ n3_ n4_;(try clear hb);(try clear hkp);(try clear hy0))|((with_reducible refine Qg (f:=65) rfl ?_);refine goesL_ (some 87) rfl rfl Try.func65 (by kernel_rfl) rfl #[.slice Ao59 t133.length co59,.int .i64 1] rfl (by (try simp only [aD,aE,aF]);first|done|(rw [show t133.length=t115.length from (Kd.Qf HO_8.out).1.symm] <;> rfl)|rfl|(simp only [aG,aH];rfl)) ?_;(with_reducible refine (laws_heldIntS.calls kj33 _ _ t133 1 t136 _ ?side1 ?side2 A57.out).mono ?_);(case side1=>repeat (first|exact (Kd.Qf HO_8.out).2.2|(with_reducible refine Kd.C_alloc ?_ _)|(with_reducible refine Kd.C_drewN ?_ _)|(with_reducible refine Kd.C_drew ?_)));(case side2=>rw [show t133.length=t115.length from (Kd.Qf HO_8.out).1.symm];exact (Kd.Qf HO_8.out).2.1);rintro e w' ⟨rfl,⟨nd,rfl⟩⟩;refine ⟨_,rfl,?_⟩))
           go_ret
           exact ⟨by first|rfl|(simp [errW_none,errW_some] <;> rfl)|(simp [*,errW_none,errW_some] <;> rfl),by repeat (first|(with_reducible first|exact HB.out|apply Qb|apply Qa|apply Qc)|exact HB.out)⟩
          ·rw [if_neg c58] at H;have c58b0:decide (t136<0)=false:=decide_eq_false c58;clear c58;replace H:=Option.bind_eq_some_iff.mp H;obtain ⟨t137,A630,H⟩:=H;replace H:(if t137<0 then (some false) else (if t137=t134 then ((laws_toBoolSS.f kj33 l0).bind fun t138=>((impl_CoverOf.f kj33 t138).bind fun bt141=>((laws_eqIntS.f kj33 bt141.1 t105).bind fun t148=>(if t148=true then ((laws_eqIntS.f kj33 bt141.2.1 t106).bind fun t149=>(if t149=true then (laws_FnExactCoverOf.j2 kj33 t133 t135 t134 (bt141.2.2 != t107)) else (laws_FnExactCoverOf.j2 kj33 t133 t135 t134 true))) else (laws_FnExactCoverOf.j2 kj33 t133 t135 t134 true))))) else (some false)))=some r:=H;have A63:=aM A630;clear A630;by_cases c64:t137<0
           ·rw [if_pos c64] at H;have c64b0:decide (t137<0)=true:=decide_eq_true c64;clear c64;obtain rfl:=Option.some.inj H;obtain ⟨Ao65,co65,eo65⟩:=Kd.R_slice HO_8.out;subst eo65;go_wp2_with (first|((with_reducible refine Qg (f:=64) rfl ?_);refine goesL_ (some 81) rfl rfl Try.func64 (by kernel_rfl) rfl #[.slice Ao65 t115.length co65,.int .i64 1] rfl (by (try simp only [aD,aE,aF]);first|done|rfl|(simp only [aG,aH];rfl)) ?_;(with_reducible refine (laws_markIntS.calls kj33 (fun k_=>some k_=(.slice Ao65 t115.length co65:Value).ownBlock) (.slice Ao65 t115.length co65) t115 1 t132 t133 w _ ?side1 ?side2 A55.out).mono ?_);(case side1=>repeat (first|(with_reducible first|exact HB.out|apply Qb|apply Qa|apply Qc)|exact HB.out));(case side2=>exact Kd.R_tight rfl HO_8.out);rintro e w66 ⟨rfl,hy0,hb,hkp⟩;refine ⟨_,rfl,?_⟩;have n0_:=aM (Kd.R_mono (ok':=fun k_=>some k_≠(v110:Value).ownBlock∧some k_≠(.slice Ao65 t115.length co65:Value).ownBlock∧some k_≠(v120:Value).ownBlock) (Kd.R_keptB (HO_4.out) hkp (fun k_ hk_ hs_=>(hk_.2.1) hs_)) (fun k_ hk_=>⟨hk_.1.1,hk_.1.2.1,hk_.1.2.2⟩));have n1_:=aM (Kd.R_mono (ok':=fun k_=>some k_≠(v108:Value).ownBlock∧some k_≠(.slice Ao65 t115.length co65:Value).ownBlock∧some k_≠(v120:Value).ownBlock) (Kd.R_keptB (HO_5.out) hkp (fun k_ hk_ hs_=>(hk_.2.1) hs_)) (fun k_ hk_=>⟨hk_.1.1,hk_.1.2.1,hk_.1.2.2⟩));have n2_:=aM (Kd.R_reok rfl hy0 (fun k_ e_=>HO_8.out.1 k_ e_));have n3_:=aM (Kd.R_mono (ok':=fun k_=>some k_≠(v108:Value).ownBlock∧some k_≠(v110:Value).ownBlock∧some k_≠(.slice Ao65 t115.length co65:Value).ownBlock) (Kd.R_keptB (HO_9.out) hkp (fun k_ hk_ hs_=>(hk_.2.2) hs_)) (fun k_ hk_=>⟨hk_.1.1,hk_.1.2.1,hk_.1.2.2⟩));have n4_:=aM (hb);clear HO_4;clear HO_5;clear HO_8;clear HO_9;clear HB;have HO_4:=n0_;have HO_5:=n1_;have HO_8:=n2_;have HO_9:=n3_;have HB:=n4_;clear n0_ n1_ n2_ n3_ n4_;(try clear hb);(try clear hkp);(try clear hy0);obtain ⟨Ao67,co67,eo67⟩:=Kd.R_slice HO_9.out;subst eo67)|((with_reducible refine Qg (f:=64) rfl ?_);refine goesL_ (some 84) rfl rfl Try.func64 (by kernel_rfl) rfl #[.slice Ao67 t116.length co67,.int .i64 t132] rfl (by (try simp only [aD,aE,aF]);first|done|rfl|(simp only [aG,aH];rfl)) ?_;(with_reducible refine (laws_markIntS.calls kj33 (fun k_=>some k_=(.slice Ao67 t116.length co67:Value).ownBlock) (.slice Ao67 t116.length co67) t116 t132 t134 t135 w _ ?side1 ?side2 A56.out).mono ?_);(case side1=>repeat (first|(with_reducible first|exact HB.out|apply Qb|apply Qa|apply Qc)|exact HB.out));(case side2=>exact Kd.R_tight rfl HO_9.out);rintro e w68 ⟨rfl,hy0,hb,hkp⟩;refine ⟨_,rfl,?_⟩;have n0_:=aM (Kd.R_mono (ok':=fun k_=>some k_≠(v110:Value).ownBlock∧some k_≠(.slice Ao65 t115.length co65:Value).ownBlock∧some k_≠(.slice Ao67 t116.length co67:Value).ownBlock) (Kd.R_keptB (HO_4.out) hkp (fun k_ hk_ hs_=>(hk_.2.2) hs_)) (fun k_ hk_=>⟨hk_.1.1,hk_.1.2.1,hk_.1.2.2⟩));have n1_:=aM (Kd.R_mono (ok':=fun k_=>some k_≠(v108:Value).ownBlock∧some k_≠(.slice Ao65 t115.length co65:Value).ownBlock∧some k_≠(.slice Ao67 t116.length co67:Value).ownBlock) (Kd.R_keptB (HO_5.out) hkp (fun k_ hk_ hs_=>(hk_.2.2) hs_)) (fun k_ hk_=>⟨hk_.1.1,hk_.1.2.1,hk_.1.2.2⟩));have n2_:=aM (Kd.R_mono (ok':=fun k_=>some k_≠(v108:Value).ownBlock∧some k_≠(v110:Value).ownBlock∧some k_≠(.slice Ao67 t116.length co67:Value).ownBlock) (Kd.R_keptB (HO_8.out) hkp (fun k_ hk_ hs_=>(hk_.2.2) hs_)) (fun k_ hk_=>⟨hk_.1.1,hk_.1.2.1,hk_.1.2.2⟩));have n3_:=aM (Kd.R_reok rfl hy0 (fun k_ e_=>HO_9.out.1 k_ e_));have n4_:=aM (hb);clear HO_4;clear HO_5;clear HO_8;clear HO_9;clear HB;have HO_4:=n0_;have HO_5:=n1_;have HO_8:=n2_;have HO_9:=n3_;have HB:=n4_;clear n0_ n1_ n2_ n3_ n4_;(try clear hb);(try clear hkp);(try clear hy0))|((with_reducible refine Qg (f:=65) rfl ?_);refine goesL_ (some 87) rfl rfl Try.func65 (by kernel_rfl) rfl #[.slice Ao65 t133.length co65,.int .i64 1] rfl (by (try simp only [aD,aE,aF]);first|done|(rw [show t133.length=t115.length from (Kd.Qf HO_8.out).1.symm] <;> rfl)|rfl|(simp only [aG,aH];rfl)) ?_;(with_reducible refine (laws_heldIntS.calls kj33 _ _ t133 1 t136 _ ?side1 ?side2 A57.out).mono ?_);(case side1=>repeat (first|exact (Kd.Qf HO_8.out).2.2|(with_reducible refine Kd.C_alloc ?_ _)|(with_reducible refine Kd.C_drewN ?_ _)|(with_reducible refine Kd.C_drew ?_)));(case side2=>rw [show t133.length=t115.length from (Kd.Qf HO_8.out).1.symm];exact (Kd.Qf HO_8.out).2.1);rintro e w' ⟨rfl,⟨nd,rfl⟩⟩;refine ⟨_,rfl,?_⟩)|((with_reducible refine Qg (f:=65) rfl ?_);refine goesL_ (some 92) rfl rfl Try.func65 (by kernel_rfl) rfl #[.slice Ao67 t135.length co67,.int .i64 t136] rfl (by (try simp only [aD,aE,aF]);first|done|(rw [show t135.length=t116.length from (Kd.Qf HO_9.out).1.symm] <;> rfl)|rfl|(simp only [aG,aH];rfl)) ?_;(with_reducible refine (laws_heldIntS.calls kj33 _ _ t135 t136 t137 _ ?side1 ?side2 A63.out).mono ?_);(case side1=>repeat (first|exact (Kd.Qf HO_9.out).2.2|(with_reducible refine Kd.C_alloc ?_ _)|(with_reducible refine Kd.C_drewN ?_ _)|(with_reducible refine Kd.C_drew ?_)));(case side2=>rw [show t135.length=t116.length from (Kd.Qf HO_9.out).1.symm];exact (Kd.Qf HO_9.out).2.1);rintro e w' ⟨rfl,⟨nd,rfl⟩⟩;refine ⟨_,rfl,?_⟩))
            go_ret
            exact ⟨by first|rfl|(simp [errW_none,errW_some] <;> rfl)|(simp [*,errW_none,errW_some] <;> rfl),by repeat (first|(with_reducible first|exact HB.out|apply Qb|apply Qa|apply Qc)|exact HB.out)⟩
           ·rw [if_neg c64] at H;have c64b0:decide (t137<0)=false:=decide_eq_false c64;clear c64;by_cases c69:t137=t134
            ·rw [if_pos c69] at H;have c69b0:(t137 == t134)=true:=beq_iff_eq.mpr c69;have c69b1:(t137 != t134)=false:=bne_eq_false_iff_eq.mpr c69;clear c69;replace H:=Option.bind_eq_some_iff.mp H;obtain ⟨t138,A700,H⟩:=H;replace H:((impl_CoverOf.f kj33 t138).bind fun bt141=>((laws_eqIntS.f kj33 bt141.1 t105).bind fun t148=>(if t148=true then ((laws_eqIntS.f kj33 bt141.2.1 t106).bind fun t149=>(if t149=true then (laws_FnExactCoverOf.j2 kj33 t133 t135 t134 (bt141.2.2 != t107)) else (laws_FnExactCoverOf.j2 kj33 t133 t135 t134 true))) else (laws_FnExactCoverOf.j2 kj33 t133 t135 t134 true))))=some r:=H;have A70:=aM A700;clear A700;replace H:=Option.bind_eq_some_iff.mp H;obtain ⟨⟨t141,t142,t143⟩,A710,H⟩:=H;replace H:((laws_eqIntS.f kj33 t141 t105).bind fun t148=>(if t148=true then ((laws_eqIntS.f kj33 t142 t106).bind fun t149=>(if t149=true then (laws_FnExactCoverOf.j2 kj33 t133 t135 t134 (t143 != t107)) else (laws_FnExactCoverOf.j2 kj33 t133 t135 t134 true))) else (laws_FnExactCoverOf.j2 kj33 t133 t135 t134 true)))=some r:=H;have A71:=aM A710;clear A710;have HC72:=aM H;clear H;obtain ⟨Ao73,co73,eo73⟩:=Kd.R_slice HO_8.out;subst eo73
             go_upto_region 29 with (first|((with_reducible refine Qg (f:=64) rfl ?_);refine goesL_ (some 81) rfl rfl Try.func64 (by kernel_rfl) rfl #[.slice Ao73 t115.length co73,.int .i64 1] rfl (by (try simp only [aD,aE,aF]);first|done|rfl|(simp only [aG,aH];rfl)) ?_;(with_reducible refine (laws_markIntS.calls kj33 (fun k_=>some k_=(.slice Ao73 t115.length co73:Value).ownBlock) (.slice Ao73 t115.length co73) t115 1 t132 t133 w _ ?side1 ?side2 A55.out).mono ?_);(case side1=>repeat (first|(with_reducible first|exact HB.out|apply Qb|apply Qa|apply Qc)|exact HB.out));(case side2=>exact Kd.R_tight rfl HO_8.out);rintro e w74 ⟨rfl,hy0,hb,hkp⟩;refine ⟨_,rfl,?_⟩;have n0_:=aM (Kd.R_mono (ok':=fun k_=>some k_≠(v110:Value).ownBlock∧some k_≠(.slice Ao73 t115.length co73:Value).ownBlock∧some k_≠(v120:Value).ownBlock) (Kd.R_keptB (HO_4.out) hkp (fun k_ hk_ hs_=>(hk_.2.1) hs_)) (fun k_ hk_=>⟨hk_.1.1,hk_.1.2.1,hk_.1.2.2⟩));have n1_:=aM (Kd.R_mono (ok':=fun k_=>some k_≠(v108:Value).ownBlock∧some k_≠(.slice Ao73 t115.length co73:Value).ownBlock∧some k_≠(v120:Value).ownBlock) (Kd.R_keptB (HO_5.out) hkp (fun k_ hk_ hs_=>(hk_.2.1) hs_)) (fun k_ hk_=>⟨hk_.1.1,hk_.1.2.1,hk_.1.2.2⟩));have n2_:=aM (Kd.R_reok rfl hy0 (fun k_ e_=>HO_8.out.1 k_ e_));have n3_:=aM (Kd.R_mono (ok':=fun k_=>some k_≠(v108:Value).ownBlock∧some k_≠(v110:Value).ownBlock∧some k_≠(.slice Ao73 t115.length co73:Value).ownBlock) (Kd.R_keptB (HO_9.out) hkp (fun k_ hk_ hs_=>(hk_.2.2) hs_)) (fun k_ hk_=>⟨hk_.1.1,hk_.1.2.1,hk_.1.2.2⟩));have n4_:=aM (hb);clear HO_4;clear HO_5;clear HO_8;clear HO_9;clear HB;have HO_4:=n0_;have HO_5:=n1_;have HO_8:=n2_;have HO_9:=n3_;have HB:=n4_;clear n0_ n1_ n2_ n3_ n4_;(try clear hb);(try clear hkp);(try clear hy0);obtain ⟨Ao75,co75,eo75⟩:=Kd.R_slice HO_9.out;subst eo75)|((with_reducible refine Qg (f:=64) rfl ?_);refine goesL_ (some 84) rfl rfl Try.func64 (by kernel_rfl) rfl #[.slice Ao75 t116.length co75,.int .i64 t132] rfl (by (try simp only [aD,aE,aF]);first|done|rfl|(simp only [aG,aH];rfl)) ?_;(with_reducible refine (laws_markIntS.calls kj33 (fun k_=>some k_=(.slice Ao75 t116.length co75:Value).ownBlock) (.slice Ao75 t116.length co75) t116 t132 t134 t135 w _ ?side1 ?side2 A56.out).mono ?_);(case side1=>repeat (first|(with_reducible first|exact HB.out|apply Qb|apply Qa|apply Qc)|exact HB.out));(case side2=>exact Kd.R_tight rfl HO_9.out);rintro e w76 ⟨rfl,hy0,hb,hkp⟩;refine ⟨_,rfl,?_⟩;have n0_:=aM (Kd.R_mono (ok':=fun k_=>some k_≠(v110:Value).ownBlock∧some k_≠(.slice Ao73 t115.length co73:Value).ownBlock∧some k_≠(.slice Ao75 t116.length co75:Value).ownBlock) (Kd.R_keptB (HO_4.out) hkp (fun k_ hk_ hs_=>(hk_.2.2) hs_)) (fun k_ hk_=>⟨hk_.1.1,hk_.1.2.1,hk_.1.2.2⟩));have n1_:=aM (Kd.R_mono (ok':=fun k_=>some k_≠(v108:Value).ownBlock∧some k_≠(.slice Ao73 t115.length co73:Value).ownBlock∧some k_≠(.slice Ao75 t116.length co75:Value).ownBlock) (Kd.R_keptB (HO_5.out) hkp (fun k_ hk_ hs_=>(hk_.2.2) hs_)) (fun k_ hk_=>⟨hk_.1.1,hk_.1.2.1,hk_.1.2.2⟩));have n2_:=aM (Kd.R_mono (ok':=fun k_=>some k_≠(v108:Value).ownBlock∧some k_≠(v110:Value).ownBlock∧some k_≠(.slice Ao75 t116.length co75:Value).ownBlock) (Kd.R_keptB (HO_8.out) hkp (fun k_ hk_ hs_=>(hk_.2.2) hs_)) (fun k_ hk_=>⟨hk_.1.1,hk_.1.2.1,hk_.1.2.2⟩));have n3_:=aM (Kd.R_reok rfl hy0 (fun k_ e_=>HO_9.out.1 k_ e_));have n4_:=aM (hb);clear HO_4;clear HO_5;clear HO_8;clear HO_9;clear HB;have HO_4:=n0_;have HO_5:=n1_;have HO_8:=n2_;have HO_9:=n3_;have HB:=n4_;clear n0_ n1_ n2_ n3_ n4_;(try clear hb);(try clear hkp);(try clear hy0))|((with_reducible refine Qg (f:=65) rfl ?_);refine goesL_ (some 87) rfl rfl Try.func65 (by kernel_rfl) rfl #[.slice Ao73 t133.length co73,.int .i64 1] rfl (by (try simp only [aD,aE,aF]);first|done|(rw [show t133.length=t115.length from (Kd.Qf HO_8.out).1.symm] <;> rfl)|rfl|(simp only [aG,aH];rfl)) ?_;(with_reducible refine (laws_heldIntS.calls kj33 _ _ t133 1 t136 _ ?side1 ?side2 A57.out).mono ?_);(case side1=>repeat (first|exact (Kd.Qf HO_8.out).2.2|(with_reducible refine Kd.C_alloc ?_ _)|(with_reducible refine Kd.C_drewN ?_ _)|(with_reducible refine Kd.C_drew ?_)));(case side2=>rw [show t133.length=t115.length from (Kd.Qf HO_8.out).1.symm];exact (Kd.Qf HO_8.out).2.1);rintro e w' ⟨rfl,⟨nd,rfl⟩⟩;refine ⟨_,rfl,?_⟩)|((with_reducible refine Qg (f:=65) rfl ?_);refine goesL_ (some 92) rfl rfl Try.func65 (by kernel_rfl) rfl #[.slice Ao75 t135.length co75,.int .i64 t136] rfl (by (try simp only [aD,aE,aF]);first|done|(rw [show t135.length=t116.length from (Kd.Qf HO_9.out).1.symm] <;> rfl)|rfl|(simp only [aG,aH];rfl)) ?_;(with_reducible refine (laws_heldIntS.calls kj33 _ _ t135 t136 t137 _ ?side1 ?side2 A63.out).mono ?_);(case side1=>repeat (first|exact (Kd.Qf HO_9.out).2.2|(with_reducible refine Kd.C_alloc ?_ _)|(with_reducible refine Kd.C_drewN ?_ _)|(with_reducible refine Kd.C_drew ?_)));(case side2=>rw [show t135.length=t116.length from (Kd.Qf HO_9.out).1.symm];exact (Kd.Qf HO_9.out).2.1);rintro e w' ⟨rfl,⟨nd,rfl⟩⟩;refine ⟨_,rfl,?_⟩)|((with_reducible refine Qg (f:=59) rfl ?_);refine goesL_ (some 100) rfl rfl Try.func59 (by kernel_rfl) rfl #[.slice A0 l0.length c0] rfl (by (try simp only [aD,aE,aF]);first|done|rfl|(simp only [aG,aH];rfl)) ?_;(with_reducible refine (laws_toBoolSS.calls kj33 _ _ l0 t138 _ ?side1 ?side2 A70.out).mono ?_);(case side1=>repeat (first|exact (Kd.C_below HR0.out (by repeat (first|(with_reducible first|exact HB.out|apply Qb|apply Qa|apply Qc)|exact HB.out)))|(with_reducible refine Kd.C_alloc ?_ _)|(with_reducible refine Kd.C_drewN ?_ _)|(with_reducible refine Kd.C_drew ?_)));(case side2=>exact HC0.out);rintro e w77 ⟨v139,rfl,ho0,hb⟩;refine ⟨_,rfl,?_⟩;have n0_:=aM (Kd.R_below (by (with_reducible repeat (first|apply Kd.Qd|apply Kd.Qe|apply Kd.R_drew));exact HO_4.out) hb);have n1_:=aM (Kd.R_below (by (with_reducible repeat (first|apply Kd.Qd|apply Kd.Qe|apply Kd.R_drew));exact HO_5.out) hb);have n2_:=aM (Kd.R_below (by (with_reducible repeat (first|apply Kd.Qd|apply Kd.Qe|apply Kd.R_drew));exact HO_8.out) hb);have n3_:=aM (Kd.R_below (by (with_reducible repeat (first|apply Kd.Qd|apply Kd.Qe|apply Kd.R_drew));exact HO_9.out) hb);have n4_:=aM (Kd.S_lower ho0 (below_size (by repeat (first|(with_reducible first|exact HB.out|apply Qb|apply Qa|apply Qc)|exact HB.out))));have n5_:=aM (below_step (by repeat (first|(with_reducible first|exact HB.out|apply Qb|apply Qa|apply Qc)|exact HB.out)) hb);clear HO_4;clear HO_5;clear HO_8;clear HO_9;clear HB;have HO_4:=n0_;have HO_5:=n1_;have HO_8:=n2_;have HO_9:=n3_;have HO140:=n4_;have HB:=n5_;clear n0_ n1_ n2_ n3_ n4_ n5_;(try clear hb);(try clear hb2);(try clear hk);(try clear hi);(try clear ho0);obtain ⟨Ao78,co78,eo78⟩:=Kd.S_slice HO140.out;subst eo78)|((with_reducible refine Qg (f:=71) rfl ?_);refine goesL_ (some 101) rfl rfl Try.func71 (by kernel_rfl) rfl #[.slice Ao78 t138.length co78] rfl (by (try simp only [aD,aE,aF]);first|done|rfl|(simp only [aG,aH];rfl)) ?_;(with_reducible refine (impl_CoverOf.calls kj33 _ _ t138 t141 t142 t143 _ ?side1 ?side2 A71.out).mono ?_);(case side1=>repeat (first|exact (Kd.S_reads' HO140.out).2.2|(with_reducible refine Kd.C_alloc ?_ _)|(with_reducible refine Kd.C_drewN ?_ _)|(with_reducible refine Kd.C_drew ?_)));(case side2=>exact (Kd.S_reads' HO140.out).2.1);rintro e w79 ⟨v144,v146,rfl,ho0,ho1,hb⟩;refine ⟨_,rfl,?_⟩;have n0_:=aM (Kd.R_mono (Kd.R_told (Kd.R_told (Kd.R_old (by (with_reducible repeat (first|apply Kd.Qd|apply Kd.Qe|apply Kd.R_drew));exact HO_4.out) hb) (Kd.R_base ho0)) (Kd.R_base ho1)) (fun _ h_=>h_.1));have n1_:=aM (Kd.R_mono (Kd.R_told (Kd.R_told (Kd.R_old (by (with_reducible repeat (first|apply Kd.Qd|apply Kd.Qe|apply Kd.R_drew));exact HO_5.out) hb) (Kd.R_base ho0)) (Kd.R_base ho1)) (fun _ h_=>h_.1));have n2_:=aM (Kd.R_mono (Kd.R_told (Kd.R_told (Kd.R_old (by (with_reducible repeat (first|apply Kd.Qd|apply Kd.Qe|apply Kd.R_drew));exact HO_8.out) hb) (Kd.R_base ho0)) (Kd.R_base ho1)) (fun _ h_=>h_.1));have n3_:=aM (Kd.R_mono (Kd.R_told (Kd.R_told (Kd.R_old (by (with_reducible repeat (first|apply Kd.Qd|apply Kd.Qe|apply Kd.R_drew));exact HO_9.out) hb) (Kd.R_base ho0)) (Kd.R_base ho1)) (fun _ h_=>h_.1));have n4_:=aM (Kd.S_below (by (with_reducible repeat (first|apply Kd.S_alloc|apply Kd.S_drewN|apply Kd.S_drew));exact HO140.out) hb);have n5_:=aM (Kd.R_lower (Kd.R_new' (Kd.R_new' (Kd.R_new' (Kd.R_new' ho0 (Kd.R_lt (by (with_reducible repeat (first|apply Kd.Qd|apply Kd.Qe|apply Kd.R_drew));exact HO_4.out))) (Kd.R_lt (by (with_reducible repeat (first|apply Kd.Qd|apply Kd.Qe|apply Kd.R_drew));exact HO_5.out))) (Kd.R_lt (by (with_reducible repeat (first|apply Kd.Qd|apply Kd.Qe|apply Kd.R_drew));exact HO_8.out))) (Kd.R_lt (by (with_reducible repeat (first|apply Kd.Qd|apply Kd.Qe|apply Kd.R_drew));exact HO_9.out))) (below_size (by repeat (first|(with_reducible first|exact HB.out|apply Qb|apply Qa|apply Qc)|exact HB.out))));have n6_:=aM (Kd.R_lower (Kd.R_new' (Kd.R_new' (Kd.R_new' (Kd.R_new' ho1 (Kd.R_lt (by (with_reducible repeat (first|apply Kd.Qd|apply Kd.Qe|apply Kd.R_drew));exact HO_4.out))) (Kd.R_lt (by (with_reducible repeat (first|apply Kd.Qd|apply Kd.Qe|apply Kd.R_drew));exact HO_5.out))) (Kd.R_lt (by (with_reducible repeat (first|apply Kd.Qd|apply Kd.Qe|apply Kd.R_drew));exact HO_8.out))) (Kd.R_lt (by (with_reducible repeat (first|apply Kd.Qd|apply Kd.Qe|apply Kd.R_drew));exact HO_9.out))) (below_size (by repeat (first|(with_reducible first|exact HB.out|apply Qb|apply Qa|apply Qc)|exact HB.out))));have n7_:=aM (below_step (by repeat (first|(with_reducible first|exact HB.out|apply Qb|apply Qa|apply Qc)|exact HB.out)) hb);clear HO_4;clear HO_5;clear HO_8;clear HO_9;clear HO140;clear HB;have HO_4:=n0_;have HO_5:=n1_;have HO_8:=n2_;have HO_9:=n3_;have HO140:=n4_;have HO145:=n5_;have HO147:=n6_;have HB:=n7_;clear n0_ n1_ n2_ n3_ n4_ n5_ n6_ n7_;(try clear hb);(try clear hb2);(try clear hk);(try clear hi);(try clear ho0);(try clear ho1)))
             (try simp only [Act.put,aA,aB,aC])
             go_cut [119] (fun v119 wc=>∃ (kq:Nat) (x119_71:Bool),v119= .bool x119_71∧Aside0 (laws_FnExactCoverOf.j2 kq t133 t135 t134 x119_71=some r)∧Aside0 (kq≤kj33)∧Aside0 (Kd.R (Kd.int .i64) 3 wc w.heap.size (fun k_=>some k_≠((.slice Ao75 t116.length co75):Value).ownBlock) (.slice Ao73 t115.length co73) t133)∧Aside0 (Kd.R (Kd.int .i64) 3 wc w.heap.size (fun k_=>some k_≠((.slice Ao73 t115.length co73):Value).ownBlock) (.slice Ao75 t116.length co75) t135)∧Aside0 (Below w.heap.size w wc))
             case first=>
              have H:=HC72.out;clear HC72;replace H:=Option.bind_eq_some_iff.mp H;obtain ⟨t148,A800,H⟩:=H;replace H:(if t148=true then ((laws_eqIntS.f kj33 t142 t106).bind fun t149=>(if t149=true then (laws_FnExactCoverOf.j2 kj33 t133 t135 t134 (t143 != t107)) else (laws_FnExactCoverOf.j2 kj33 t133 t135 t134 true))) else (laws_FnExactCoverOf.j2 kj33 t133 t135 t134 true))=some r:=H;have A80:=aM A800;clear A800;by_cases c81:t148=true
              ·subst c81;have H1:((laws_eqIntS.f kj33 t142 t106).bind fun t149=>(if t149=true then (laws_FnExactCoverOf.j2 kj33 t133 t135 t134 (t143 != t107)) else (laws_FnExactCoverOf.j2 kj33 t133 t135 t134 true)))=some r:=by rw [if_pos rfl] at H;exact H
               clear H;have H:=H1;clear H1;replace H:=Option.bind_eq_some_iff.mp H;obtain ⟨t149,A820,H⟩:=H;replace H:(if t149=true then (laws_FnExactCoverOf.j2 kj33 t133 t135 t134 (t143 != t107)) else (laws_FnExactCoverOf.j2 kj33 t133 t135 t134 true))=some r:=H;have A82:=aM A820;clear A820;by_cases c83:t149=true
               ·subst c83;have H1:(laws_FnExactCoverOf.j2 kj33 t133 t135 t134 (t143 != t107))=some r:=by rw [if_pos rfl] at H;exact H
                clear H;have H:=H1;clear H1;have H':=aM H;clear H;obtain ⟨Ao84,co84,eo84⟩:=Kd.R_slice HO145.out;subst eo84;obtain ⟨Ao85,co85,eo85⟩:=Kd.R_slice HO_4.out;subst eo85;go_wp2_with (first|((with_reducible refine Qg (f:=61) rfl ?_);refine goesL_ (some 107) rfl rfl Try.func61 (by kernel_rfl) rfl #[.slice Ao84 t141.length co84,.slice Ao85 t105.length co85] rfl (by (try simp only [aD,aE,aF]);first|done|rfl|(simp only [aG,aH];rfl)) ?_;(with_reducible refine (laws_eqIntS.calls kj33 _ _ t141 _ _ t105 true _ ?side1 ?side2 ?side3 ?side4 A80.out).mono ?_);(case side1=>repeat (first|exact (Kd.Qf HO145.out).2.2|(with_reducible refine Kd.C_alloc ?_ _)|(with_reducible refine Kd.C_drewN ?_ _)|(with_reducible refine Kd.C_drew ?_)));(case side2=>exact (Kd.Qf HO145.out).2.1);(case side3=>repeat (first|exact (Kd.Qf HO_4.out).2.2|(with_reducible refine Kd.C_alloc ?_ _)|(with_reducible refine Kd.C_drewN ?_ _)|(with_reducible refine Kd.C_drew ?_)));(case side4=>exact (Kd.Qf HO_4.out).2.1);rintro e w' ⟨rfl,⟨nd,rfl⟩⟩;refine ⟨_,rfl,?_⟩;obtain ⟨Ao86,co86,eo86⟩:=Kd.R_slice HO147.out;subst eo86;obtain ⟨Ao87,co87,eo87⟩:=Kd.R_slice HO_5.out;subst eo87)|(go_at_call 61;(with_reducible refine (laws_eqIntS.calls kj33 _ _ t142 _ _ t106 true _ ?side1 ?side2 ?side3 ?side4 A82.out).mono ?_);(case side1=>repeat (first|exact (Kd.Qf HO147.out).2.2|(with_reducible refine Kd.C_alloc ?_ _)|(with_reducible refine Kd.C_drewN ?_ _)|(with_reducible refine Kd.C_drew ?_)));(case side2=>exact (Kd.Qf HO147.out).2.1);(case side3=>repeat (first|exact (Kd.Qf HO_5.out).2.2|(with_reducible refine Kd.C_alloc ?_ _)|(with_reducible refine Kd.C_drewN ?_ _)|(with_reducible refine Kd.C_drew ?_)));(case side4=>exact (Kd.Qf HO_5.out).2.1);rintro e w' ⟨rfl,⟨nd,rfl⟩⟩))
                go_meet
                case rel=>exact ⟨_,((t143 != t107)),(by first|rfl|(simp;done)|(simp [*];done)),H',⟨by have:=HJ7.out;have:=HJ33.out;first|omega|exact Nat.le_refl _⟩,⟨by (with_reducible repeat (first|apply Kd.Qd|apply Kd.Qe|apply Kd.R_drew));exact Kd.R_mono HO_8.out (fun _ hk=>hk.1.1.2.2)⟩,⟨by (with_reducible repeat (first|apply Kd.Qd|apply Kd.Qe|apply Kd.R_drew));exact Kd.R_mono HO_9.out (fun _ hk=>hk.1.1.2.2)⟩,⟨by repeat (first|(with_reducible first|exact HB.out|apply Qb|apply Qa|apply Qc)|exact HB.out)⟩⟩
               ·replace c83:=Bool.eq_false_iff.mpr c83;subst c83;have H1:(laws_FnExactCoverOf.j2 kj33 t133 t135 t134 true)=some r:=by rw [if_neg (show ¬ (false=true) by decide)] at H;exact H
                clear H;have H:=H1;clear H1;have H':=aM H;clear H;obtain ⟨Ao88,co88,eo88⟩:=Kd.R_slice HO145.out;subst eo88;obtain ⟨Ao89,co89,eo89⟩:=Kd.R_slice HO_4.out;subst eo89;go_wp2_with (first|((with_reducible refine Qg (f:=61) rfl ?_);refine goesL_ (some 107) rfl rfl Try.func61 (by kernel_rfl) rfl #[.slice Ao88 t141.length co88,.slice Ao89 t105.length co89] rfl (by (try simp only [aD,aE,aF]);first|done|rfl|(simp only [aG,aH];rfl)) ?_;(with_reducible refine (laws_eqIntS.calls kj33 _ _ t141 _ _ t105 true _ ?side1 ?side2 ?side3 ?side4 A80.out).mono ?_);(case side1=>repeat (first|exact (Kd.Qf HO145.out).2.2|(with_reducible refine Kd.C_alloc ?_ _)|(with_reducible refine Kd.C_drewN ?_ _)|(with_reducible refine Kd.C_drew ?_)));(case side2=>exact (Kd.Qf HO145.out).2.1);(case side3=>repeat (first|exact (Kd.Qf HO_4.out).2.2|(with_reducible refine Kd.C_alloc ?_ _)|(with_reducible refine Kd.C_drewN ?_ _)|(with_reducible refine Kd.C_drew ?_)));(case side4=>exact (Kd.Qf HO_4.out).2.1);rintro e w' ⟨rfl,⟨nd,rfl⟩⟩;refine ⟨_,rfl,?_⟩;obtain ⟨Ao90,co90,eo90⟩:=Kd.R_slice HO147.out;subst eo90;obtain ⟨Ao91,co91,eo91⟩:=Kd.R_slice HO_5.out;subst eo91)|(go_at_call 61;(with_reducible refine (laws_eqIntS.calls kj33 _ _ t142 _ _ t106 false _ ?side1 ?side2 ?side3 ?side4 A82.out).mono ?_);(case side1=>repeat (first|exact (Kd.Qf HO147.out).2.2|(with_reducible refine Kd.C_alloc ?_ _)|(with_reducible refine Kd.C_drewN ?_ _)|(with_reducible refine Kd.C_drew ?_)));(case side2=>exact (Kd.Qf HO147.out).2.1);(case side3=>repeat (first|exact (Kd.Qf HO_5.out).2.2|(with_reducible refine Kd.C_alloc ?_ _)|(with_reducible refine Kd.C_drewN ?_ _)|(with_reducible refine Kd.C_drew ?_)));(case side4=>exact (Kd.Qf HO_5.out).2.1);rintro e w' ⟨rfl,⟨nd,rfl⟩⟩))
                go_meet
                case rel=>exact ⟨_,(true),(by first|rfl|(simp;done)|(simp [*];done)),H',⟨by have:=HJ7.out;have:=HJ33.out;first|omega|exact Nat.le_refl _⟩,⟨by (with_reducible repeat (first|apply Kd.Qd|apply Kd.Qe|apply Kd.R_drew));exact Kd.R_mono HO_8.out (fun _ hk=>hk.1.1.2.2)⟩,⟨by (with_reducible repeat (first|apply Kd.Qd|apply Kd.Qe|apply Kd.R_drew));exact Kd.R_mono HO_9.out (fun _ hk=>hk.1.1.2.2)⟩,⟨by repeat (first|(with_reducible first|exact HB.out|apply Qb|apply Qa|apply Qc)|exact HB.out)⟩⟩
              ·replace c81:=Bool.eq_false_iff.mpr c81;subst c81;have H1:(laws_FnExactCoverOf.j2 kj33 t133 t135 t134 true)=some r:=by rw [if_neg (show ¬ (false=true) by decide)] at H;exact H
               clear H;have H:=H1;clear H1;have H':=aM H;clear H;obtain ⟨Ao92,co92,eo92⟩:=Kd.R_slice HO145.out;subst eo92;obtain ⟨Ao93,co93,eo93⟩:=Kd.R_slice HO_4.out;subst eo93;go_wp2_with (first|((with_reducible refine Qg (f:=61) rfl ?_);refine goesL_ (some 107) rfl rfl Try.func61 (by kernel_rfl) rfl #[.slice Ao92 t141.length co92,.slice Ao93 t105.length co93] rfl (by (try simp only [aD,aE,aF]);first|done|rfl|(simp only [aG,aH];rfl)) ?_;(with_reducible refine (laws_eqIntS.calls kj33 _ _ t141 _ _ t105 false _ ?side1 ?side2 ?side3 ?side4 A80.out).mono ?_);(case side1=>repeat (first|exact (Kd.Qf HO145.out).2.2|(with_reducible refine Kd.C_alloc ?_ _)|(with_reducible refine Kd.C_drewN ?_ _)|(with_reducible refine Kd.C_drew ?_)));(case side2=>exact (Kd.Qf HO145.out).2.1);(case side3=>repeat (first|exact (Kd.Qf HO_4.out).2.2|(with_reducible refine Kd.C_alloc ?_ _)|(with_reducible refine Kd.C_drewN ?_ _)|(with_reducible refine Kd.C_drew ?_)));(case side4=>exact (Kd.Qf HO_4.out).2.1);rintro e w' ⟨rfl,⟨nd,rfl⟩⟩;refine ⟨_,rfl,?_⟩))
               go_meet
               case rel=>exact ⟨_,(true),(by first|rfl|(simp;done)|(simp [*];done)),H',⟨by have:=HJ7.out;have:=HJ33.out;first|omega|exact Nat.le_refl _⟩,⟨by (with_reducible repeat (first|apply Kd.Qd|apply Kd.Qe|apply Kd.R_drew));exact Kd.R_mono HO_8.out (fun _ hk=>hk.1.1.2.2)⟩,⟨by (with_reducible repeat (first|apply Kd.Qd|apply Kd.Qe|apply Kd.R_drew));exact Kd.R_mono HO_9.out (fun _ hk=>hk.1.1.2.2)⟩,⟨by repeat (first|(with_reducible first|exact HB.out|apply Qb|apply Qa|apply Qc)|exact HB.out)⟩⟩
             case rest=>
              clear HC72;(try clear c1);(try clear c2);(try clear p2);(try clear c3);(try clear c3b0);(try clear c4);(try clear c5);(try clear c6);(try clear c7);(try clear c8);(try clear c9);(try clear c16);(try clear c18);(try clear c29);(try clear c32);(try clear c39);(try clear c39b0);(try clear c41);(try clear c43);(try clear c54);(try clear c57);(try clear c58);(try clear c58b0);(try clear c59);(try clear c61);(try clear c62);(try clear c63);(try clear c64);(try clear c64b0);(try clear c65);(try clear c69);(try clear c69b0);(try clear c69b1);(try clear c70);(try clear c71);(try clear c81);(try clear c83);(try clear p2);obtain ⟨kq,x119_71,rfl,HA,HJ71,HO_8,HO_9,HB⟩:=hcut;have hl8_71:=(Kd.Qf HO_8.out).1;rw [hl8_71] at HO_8;(try simp only [hl8_71]);(try simp only [hl8_71] at HO_9);have hl9_71:=(Kd.Qf HO_9.out).1;rw [hl9_71] at HO_9;(try simp only [hl9_71]);(try simp only [hl9_71] at HO_8)
              cases kq with
              |zero=>exact absurd HA.out (by simp [laws_FnExactCoverOf.j2])
              |succ kj71=>
               have H:=HA.out;clear HA;simp only [laws_FnExactCoverOf.j2] at H;by_cases c94:x119_71=true
               ·subst c94;have H1:(some false)=some r:=by rw [if_pos rfl] at H;exact H
                clear H;have H:=H1;clear H1;obtain rfl:=Option.some.inj H;go_wp2
                go_ret
                exact ⟨by first|rfl|(simp [errW_none,errW_some] <;> rfl)|(simp [*,errW_none,errW_some] <;> rfl),by repeat (first|(with_reducible first|exact HB.out|apply Qb|apply Qa|apply Qc)|exact HB.out)⟩
               ·replace c94:=Bool.eq_false_iff.mpr c94;subst c94;have H1:((laws_heldIntS.f kj71 t133 1).bind fun t150=>(if t150<0 then (some false) else ((laws_heldIntS.f kj71 t135 t150).bind fun t151=>(if t151<0 then (some false) else (if t151=t134 then (some true) else (some false))))))=some r:=by rw [if_neg (show ¬ (false=true) by decide)] at H;exact H
                clear H;have H:=H1;clear H1;replace H:=Option.bind_eq_some_iff.mp H;obtain ⟨t150,A950,H⟩:=H;replace H:(if t150<0 then (some false) else ((laws_heldIntS.f kj71 t135 t150).bind fun t151=>(if t151<0 then (some false) else (if t151=t134 then (some true) else (some false)))))=some r:=H;have A95:=aM A950;clear A950;by_cases c96:t150<0
                ·rw [if_pos c96] at H;have c96b0:decide (t150<0)=true:=decide_eq_true c96;clear c96;obtain rfl:=Option.some.inj H;go_wp2_with (first|((with_reducible refine Qg (f:=65) rfl ?_);refine goesL_ (some 122) rfl rfl Try.func65 (by kernel_rfl) rfl #[.slice Ao73 t133.length co73,.int .i64 1] rfl (by (try simp only [aD,aE,aF]);first|done|rfl|(simp only [aG,aH];rfl)) ?_;(with_reducible refine (laws_heldIntS.calls kj71 _ _ t133 1 t150 _ ?side1 ?side2 A95.out).mono ?_);(case side1=>repeat (first|exact (Kd.Qf HO_8.out).2.2|(with_reducible refine Kd.C_alloc ?_ _)|(with_reducible refine Kd.C_drewN ?_ _)|(with_reducible refine Kd.C_drew ?_)));(case side2=>exact (Kd.Qf HO_8.out).2.1);rintro e w' ⟨rfl,⟨nd,rfl⟩⟩;refine ⟨_,rfl,?_⟩))
                 go_ret
                 exact ⟨by first|rfl|(simp [errW_none,errW_some] <;> rfl)|(simp [*,errW_none,errW_some] <;> rfl),by repeat (first|(with_reducible first|exact HB.out|apply Qb|apply Qa|apply Qc)|exact HB.out)⟩
                ·rw [if_neg c96] at H;have c96b0:decide (t150<0)=false:=decide_eq_false c96;clear c96;replace H:=Option.bind_eq_some_iff.mp H;obtain ⟨t151,A970,H⟩:=H;replace H:(if t151<0 then (some false) else (if t151=t134 then (some true) else (some false)))=some r:=H;have A97:=aM A970;clear A970;by_cases c98:t151<0
                 ·rw [if_pos c98] at H;have c98b0:decide (t151<0)=true:=decide_eq_true c98;clear c98;obtain rfl:=Option.some.inj H;go_wp2_with (first|((with_reducible refine Qg (f:=65) rfl ?_);refine goesL_ (some 122) rfl rfl Try.func65 (by kernel_rfl) rfl #[.slice Ao73 t133.length co73,.int .i64 1] rfl (by (try simp only [aD,aE,aF]);first|done|rfl|(simp only [aG,aH];rfl)) ?_;(with_reducible refine (laws_heldIntS.calls kj71 _ _ t133 1 t150 _ ?side1 ?side2 A95.out).mono ?_);(case side1=>repeat (first|exact (Kd.Qf HO_8.out).2.2|(with_reducible refine Kd.C_alloc ?_ _)|(with_reducible refine Kd.C_drewN ?_ _)|(with_reducible refine Kd.C_drew ?_)));(case side2=>exact (Kd.Qf HO_8.out).2.1);rintro e w' ⟨rfl,⟨nd,rfl⟩⟩;refine ⟨_,rfl,?_⟩)|((with_reducible refine Qg (f:=65) rfl ?_);refine goesL_ (some 127) rfl rfl Try.func65 (by kernel_rfl) rfl #[.slice Ao75 t135.length co75,.int .i64 t150] rfl (by (try simp only [aD,aE,aF]);first|done|rfl|(simp only [aG,aH];rfl)) ?_;(with_reducible refine (laws_heldIntS.calls kj71 _ _ t135 t150 t151 _ ?side1 ?side2 A97.out).mono ?_);(case side1=>repeat (first|exact (Kd.Qf HO_9.out).2.2|(with_reducible refine Kd.C_alloc ?_ _)|(with_reducible refine Kd.C_drewN ?_ _)|(with_reducible refine Kd.C_drew ?_)));(case side2=>exact (Kd.Qf HO_9.out).2.1);rintro e w' ⟨rfl,⟨nd,rfl⟩⟩;refine ⟨_,rfl,?_⟩))
                  go_ret
                  exact ⟨by first|rfl|(simp [errW_none,errW_some] <;> rfl)|(simp [*,errW_none,errW_some] <;> rfl),by repeat (first|(with_reducible first|exact HB.out|apply Qb|apply Qa|apply Qc)|exact HB.out)⟩
                 ·rw [if_neg c98] at H;have c98b0:decide (t151<0)=false:=decide_eq_false c98;clear c98;by_cases c99:t151=t134
                  ·rw [if_pos c99] at H;have c99b0:(t151 == t134)=true:=beq_iff_eq.mpr c99;have c99b1:(t151 != t134)=false:=bne_eq_false_iff_eq.mpr c99;clear c99;obtain rfl:=Option.some.inj H;go_wp2_with (first|((with_reducible refine Qg (f:=65) rfl ?_);refine goesL_ (some 122) rfl rfl Try.func65 (by kernel_rfl) rfl #[.slice Ao73 t133.length co73,.int .i64 1] rfl (by (try simp only [aD,aE,aF]);first|done|rfl|(simp only [aG,aH];rfl)) ?_;(with_reducible refine (laws_heldIntS.calls kj71 _ _ t133 1 t150 _ ?side1 ?side2 A95.out).mono ?_);(case side1=>repeat (first|exact (Kd.Qf HO_8.out).2.2|(with_reducible refine Kd.C_alloc ?_ _)|(with_reducible refine Kd.C_drewN ?_ _)|(with_reducible refine Kd.C_drew ?_)));(case side2=>exact (Kd.Qf HO_8.out).2.1);rintro e w' ⟨rfl,⟨nd,rfl⟩⟩;refine ⟨_,rfl,?_⟩)|((with_reducible refine Qg (f:=65) rfl ?_);refine goesL_ (some 127) rfl rfl Try.func65 (by kernel_rfl) rfl #[.slice Ao75 t135.length co75,.int .i64 t150] rfl (by (try simp only [aD,aE,aF]);first|done|rfl|(simp only [aG,aH];rfl)) ?_;(with_reducible refine (laws_heldIntS.calls kj71 _ _ t135 t150 t151 _ ?side1 ?side2 A97.out).mono ?_);(case side1=>repeat (first|exact (Kd.Qf HO_9.out).2.2|(with_reducible refine Kd.C_alloc ?_ _)|(with_reducible refine Kd.C_drewN ?_ _)|(with_reducible refine Kd.C_drew ?_)));(case side2=>exact (Kd.Qf HO_9.out).2.1);rintro e w' ⟨rfl,⟨nd,rfl⟩⟩;refine ⟨_,rfl,?_⟩))
                   go_ret
                   exact ⟨by first|rfl|(simp [errW_none,errW_some] <;> rfl)|(simp [*,errW_none,errW_some] <;> rfl),by repeat (first|(with_reducible first|exact HB.out|apply Qb|apply Qa|apply Qc)|exact HB.out)⟩
                  ·rw [if_neg c99] at H;have c99b0:(t151 == t134)=false:=beq_eq_false_iff_ne.mpr c99;have c99b1:(t151 != t134)=true:=bne_iff_ne.mpr c99;obtain rfl:=Option.some.inj H;go_wp2_with (first|((with_reducible refine Qg (f:=65) rfl ?_);refine goesL_ (some 122) rfl rfl Try.func65 (by kernel_rfl) rfl #[.slice Ao73 t133.length co73,.int .i64 1] rfl (by (try simp only [aD,aE,aF]);first|done|rfl|(simp only [aG,aH];rfl)) ?_;(with_reducible refine (laws_heldIntS.calls kj71 _ _ t133 1 t150 _ ?side1 ?side2 A95.out).mono ?_);(case side1=>repeat (first|exact (Kd.Qf HO_8.out).2.2|(with_reducible refine Kd.C_alloc ?_ _)|(with_reducible refine Kd.C_drewN ?_ _)|(with_reducible refine Kd.C_drew ?_)));(case side2=>exact (Kd.Qf HO_8.out).2.1);rintro e w' ⟨rfl,⟨nd,rfl⟩⟩;refine ⟨_,rfl,?_⟩)|((with_reducible refine Qg (f:=65) rfl ?_);refine goesL_ (some 127) rfl rfl Try.func65 (by kernel_rfl) rfl #[.slice Ao75 t135.length co75,.int .i64 t150] rfl (by (try simp only [aD,aE,aF]);first|done|rfl|(simp only [aG,aH];rfl)) ?_;(with_reducible refine (laws_heldIntS.calls kj71 _ _ t135 t150 t151 _ ?side1 ?side2 A97.out).mono ?_);(case side1=>repeat (first|exact (Kd.Qf HO_9.out).2.2|(with_reducible refine Kd.C_alloc ?_ _)|(with_reducible refine Kd.C_drewN ?_ _)|(with_reducible refine Kd.C_drew ?_)));(case side2=>exact (Kd.Qf HO_9.out).2.1);rintro e w' ⟨rfl,⟨nd,rfl⟩⟩;refine ⟨_,rfl,?_⟩))
                   go_ret
                   exact ⟨by first|rfl|(simp [errW_none,errW_some] <;> rfl)|(simp [*,errW_none,errW_some] <;> rfl),by repeat (first|(with_reducible first|exact HB.out|apply Qb|apply Qa|apply Qc)|exact HB.out)⟩
            ·rw [if_neg c69] at H;have c69b0:(t137 == t134)=false:=beq_eq_false_iff_ne.mpr c69;have c69b1:(t137 != t134)=true:=bne_iff_ne.mpr c69;obtain rfl:=Option.some.inj H;obtain ⟨Ao100,co100,eo100⟩:=Kd.R_slice HO_8.out;subst eo100;go_wp2_with (first|((with_reducible refine Qg (f:=64) rfl ?_);refine goesL_ (some 81) rfl rfl Try.func64 (by kernel_rfl) rfl #[.slice Ao100 t115.length co100,.int .i64 1] rfl (by (try simp only [aD,aE,aF]);first|done|rfl|(simp only [aG,aH];rfl)) ?_;(with_reducible refine (laws_markIntS.calls kj33 (fun k_=>some k_=(.slice Ao100 t115.length co100:Value).ownBlock) (.slice Ao100 t115.length co100) t115 1 t132 t133 w _ ?side1 ?side2 A55.out).mono ?_);(case side1=>repeat (first|(with_reducible first|exact HB.out|apply Qb|apply Qa|apply Qc)|exact HB.out));(case side2=>exact Kd.R_tight rfl HO_8.out);rintro e w101 ⟨rfl,hy0,hb,hkp⟩;refine ⟨_,rfl,?_⟩;have n0_:=aM (Kd.R_mono (ok':=fun k_=>some k_≠(v110:Value).ownBlock∧some k_≠(.slice Ao100 t115.length co100:Value).ownBlock∧some k_≠(v120:Value).ownBlock) (Kd.R_keptB (HO_4.out) hkp (fun k_ hk_ hs_=>(hk_.2.1) hs_)) (fun k_ hk_=>⟨hk_.1.1,hk_.1.2.1,hk_.1.2.2⟩));have n1_:=aM (Kd.R_mono (ok':=fun k_=>some k_≠(v108:Value).ownBlock∧some k_≠(.slice Ao100 t115.length co100:Value).ownBlock∧some k_≠(v120:Value).ownBlock) (Kd.R_keptB (HO_5.out) hkp (fun k_ hk_ hs_=>(hk_.2.1) hs_)) (fun k_ hk_=>⟨hk_.1.1,hk_.1.2.1,hk_.1.2.2⟩));have n2_:=aM (Kd.R_reok rfl hy0 (fun k_ e_=>HO_8.out.1 k_ e_));have n3_:=aM (Kd.R_mono (ok':=fun k_=>some k_≠(v108:Value).ownBlock∧some k_≠(v110:Value).ownBlock∧some k_≠(.slice Ao100 t115.length co100:Value).ownBlock) (Kd.R_keptB (HO_9.out) hkp (fun k_ hk_ hs_=>(hk_.2.2) hs_)) (fun k_ hk_=>⟨hk_.1.1,hk_.1.2.1,hk_.1.2.2⟩));have n4_:=aM (hb);clear HO_4;clear HO_5;clear HO_8;clear HO_9;clear HB;have HO_4:=n0_;have HO_5:=n1_;have HO_8:=n2_;have HO_9:=n3_;have HB:=n4_;clear n0_ n1_ n2_ n3_ n4_;(try clear hb);(try clear hkp);(try clear hy0);obtain ⟨Ao102,co102,eo102⟩:=Kd.R_slice HO_9.out;subst eo102)|((with_reducible refine Qg (f:=64) rfl ?_);refine goesL_ (some 84) rfl rfl Try.func64 (by kernel_rfl) rfl #[.slice Ao102 t116.length co102,.int .i64 t132] rfl (by (try simp only [aD,aE,aF]);first|done|rfl|(simp only [aG,aH];rfl)) ?_;(with_reducible refine (laws_markIntS.calls kj33 (fun k_=>some k_=(.slice Ao102 t116.length co102:Value).ownBlock) (.slice Ao102 t116.length co102) t116 t132 t134 t135 w _ ?side1 ?side2 A56.out).mono ?_);(case side1=>repeat (first|(with_reducible first|exact HB.out|apply Qb|apply Qa|apply Qc)|exact HB.out));(case side2=>exact Kd.R_tight rfl HO_9.out);rintro e w103 ⟨rfl,hy0,hb,hkp⟩;refine ⟨_,rfl,?_⟩;have n0_:=aM (Kd.R_mono (ok':=fun k_=>some k_≠(v110:Value).ownBlock∧some k_≠(.slice Ao100 t115.length co100:Value).ownBlock∧some k_≠(.slice Ao102 t116.length co102:Value).ownBlock) (Kd.R_keptB (HO_4.out) hkp (fun k_ hk_ hs_=>(hk_.2.2) hs_)) (fun k_ hk_=>⟨hk_.1.1,hk_.1.2.1,hk_.1.2.2⟩));have n1_:=aM (Kd.R_mono (ok':=fun k_=>some k_≠(v108:Value).ownBlock∧some k_≠(.slice Ao100 t115.length co100:Value).ownBlock∧some k_≠(.slice Ao102 t116.length co102:Value).ownBlock) (Kd.R_keptB (HO_5.out) hkp (fun k_ hk_ hs_=>(hk_.2.2) hs_)) (fun k_ hk_=>⟨hk_.1.1,hk_.1.2.1,hk_.1.2.2⟩));have n2_:=aM (Kd.R_mono (ok':=fun k_=>some k_≠(v108:Value).ownBlock∧some k_≠(v110:Value).ownBlock∧some k_≠(.slice Ao102 t116.length co102:Value).ownBlock) (Kd.R_keptB (HO_8.out) hkp (fun k_ hk_ hs_=>(hk_.2.2) hs_)) (fun k_ hk_=>⟨hk_.1.1,hk_.1.2.1,hk_.1.2.2⟩));have n3_:=aM (Kd.R_reok rfl hy0 (fun k_ e_=>HO_9.out.1 k_ e_));have n4_:=aM (hb);clear HO_4;clear HO_5;clear HO_8;clear HO_9;clear HB;have HO_4:=n0_;have HO_5:=n1_;have HO_8:=n2_;have HO_9:=n3_;have HB:=n4_;clear n0_ n1_ n2_ n3_ n4_;(try clear hb);(try clear hkp);(try clear hy0))|((with_reducible refine Qg (f:=65) rfl ?_);refine goesL_ (some 87) rfl rfl Try.func65 (by kernel_rfl) rfl #[.slice Ao100 t133.length co100,.int .i64 1] rfl (by (try simp only [aD,aE,aF]);first|done|(rw [show t133.length=t115.length from (Kd.Qf HO_8.out).1.symm] <;> rfl)|rfl|(simp only [aG,aH];rfl)) ?_;(with_reducible refine (laws_heldIntS.calls kj33 _ _ t133 1 t136 _ ?side1 ?side2 A57.out).mono ?_);(case side1=>repeat (first|exact (Kd.Qf HO_8.out).2.2|(with_reducible refine Kd.C_alloc ?_ _)|(with_reducible refine Kd.C_drewN ?_ _)|(with_reducible refine Kd.C_drew ?_)));(case side2=>rw [show t133.length=t115.length from (Kd.Qf HO_8.out).1.symm];exact (Kd.Qf HO_8.out).2.1);rintro e w' ⟨rfl,⟨nd,rfl⟩⟩;refine ⟨_,rfl,?_⟩)|((with_reducible refine Qg (f:=65) rfl ?_);refine goesL_ (some 92) rfl rfl Try.func65 (by kernel_rfl) rfl #[.slice Ao102 t135.length co102,.int .i64 t136] rfl (by (try simp only [aD,aE,aF]);first|done|(rw [show t135.length=t116.length from (Kd.Qf HO_9.out).1.symm] <;> rfl)|rfl|(simp only [aG,aH];rfl)) ?_;(with_reducible refine (laws_heldIntS.calls kj33 _ _ t135 t136 t137 _ ?side1 ?side2 A63.out).mono ?_);(case side1=>repeat (first|exact (Kd.Qf HO_9.out).2.2|(with_reducible refine Kd.C_alloc ?_ _)|(with_reducible refine Kd.C_drewN ?_ _)|(with_reducible refine Kd.C_drew ?_)));(case side2=>rw [show t135.length=t116.length from (Kd.Qf HO_9.out).1.symm];exact (Kd.Qf HO_9.out).2.1);rintro e w' ⟨rfl,⟨nd,rfl⟩⟩;refine ⟨_,rfl,?_⟩))
             go_ret
             exact ⟨by first|rfl|(simp [errW_none,errW_some] <;> rfl)|(simp [*,errW_none,errW_some] <;> rfl),by repeat (first|(with_reducible first|exact HB.out|apply Qb|apply Qa|apply Qc)|exact HB.out)⟩
      ·replace c32:=Bool.eq_false_iff.mpr c32;subst c32;have H1:(some false)=some r:=by rw [if_neg (show ¬ (false=true) by decide)] at H;exact H
       clear H;have H:=H1;clear H1;obtain rfl:=Option.some.inj H;go_wp2_with (first|((with_reducible refine Qg (f:=59) rfl ?_);refine goesL_ (some 54) rfl rfl Try.func59 (by kernel_rfl) rfl #[.slice A0 l0.length c0] rfl (by (try simp only [aD,aE,aF]);first|done|rfl|(simp only [aG,aH];rfl)) ?_;(with_reducible refine (laws_toBoolSS.calls kj7 _ _ l0 t124 _ ?side1 ?side2 A30.out).mono ?_);(case side1=>repeat (first|exact (Kd.C_below HR0.out HB.out)|(with_reducible refine Kd.C_alloc ?_ _)|(with_reducible refine Kd.C_drewN ?_ _)|(with_reducible refine Kd.C_drew ?_)));(case side2=>exact HC0.out);rintro e w104 ⟨v125,rfl,ho0,hb⟩;refine ⟨_,rfl,?_⟩;have n0_:=aM (Kd.R_below (by (with_reducible repeat (first|apply Kd.Qd|apply Kd.Qe|apply Kd.R_drew));exact HO_4.out) hb);have n1_:=aM (Kd.R_below (by (with_reducible repeat (first|apply Kd.Qd|apply Kd.Qe|apply Kd.R_drew));exact HO_5.out) hb);have n2_:=aM (Kd.S_elder' (by (with_reducible repeat (first|apply Kd.S_alloc|apply Kd.S_drewN|apply Kd.S_drew));exact HO_7.out) (Kd.S_base ho0) hb);have n3_:=aM (Kd.R_below (by (with_reducible repeat (first|apply Kd.Qd|apply Kd.Qe|apply Kd.R_drew));exact HO_8.out) hb);have n4_:=aM (Kd.R_below (by (with_reducible repeat (first|apply Kd.Qd|apply Kd.Qe|apply Kd.R_drew));exact HO_9.out) hb);have n5_:=aM (Kd.S_lower (Kd.S_new' ho0 (Kd.S_lt (by (with_reducible repeat (first|apply Kd.S_alloc|apply Kd.S_drewN|apply Kd.S_drew));exact HO_7.out))) (below_size (by repeat (first|(with_reducible first|exact HB.out|apply Qb|apply Qa|apply Qc)|exact HB.out))));have n6_:=aM (below_step (by repeat (first|(with_reducible first|exact HB.out|apply Qb|apply Qa|apply Qc)|exact HB.out)) hb);clear HO_4;clear HO_5;clear HO_7;clear HO_8;clear HO_9;clear HB;have HO_4:=n0_;have HO_5:=n1_;have HO_7:=n2_;have HO_8:=n3_;have HO_9:=n4_;have HO126:=n5_;have HB:=n6_;clear n0_ n1_ n2_ n3_ n4_ n5_ n6_;(try clear hb);(try clear hb2);(try clear hk);(try clear hi);(try clear ho0);obtain ⟨Ao105,co105,eo105⟩:=Kd.S_slice HO126.out;subst eo105)|((with_reducible refine Qg (f:=62) rfl ?_);refine goesL_ (some 55) rfl rfl Try.func62 (by kernel_rfl) rfl #[.slice Ao13 t112.length co13,.slice Ao105 t124.length co105] rfl (by (try simp only [aD,aE,aF]);first|done|rfl|(simp only [aG,aH];rfl)) ?_;(with_reducible refine (laws_eqBoolSS.calls kj7 _ _ t112 _ _ t124 false _ ?side1 ?side2 ?side3 ?side4 A31.out).mono ?_);(case side1=>repeat (first|exact (Kd.S_reads' HO_7.out).2.2|(with_reducible refine Kd.C_alloc ?_ _)|(with_reducible refine Kd.C_drewN ?_ _)|(with_reducible refine Kd.C_drew ?_)));(case side2=>exact (Kd.S_reads' HO_7.out).2.1);(case side3=>repeat (first|exact (Kd.S_reads' HO126.out).2.2|(with_reducible refine Kd.C_alloc ?_ _)|(with_reducible refine Kd.C_drewN ?_ _)|(with_reducible refine Kd.C_drew ?_)));(case side4=>exact (Kd.S_reads' HO126.out).2.1);rintro e w' ⟨rfl,⟨nd,rfl⟩⟩;refine ⟨_,rfl,?_⟩))
       go_ret
       exact ⟨by first|rfl|(simp [errW_none,errW_some] <;> rfl)|(simp [*,errW_none,errW_some] <;> rfl),by repeat (first|(with_reducible first|exact HB.out|apply Qb|apply Qa|apply Qc)|exact HB.out)⟩
end Go.Proofs.Ytpagpbamdpllnaa.Print
namespace Go.Proofs.Ytpagpbamdpllnaa.Print
open Go.RowKit Go.Proofs.YtpagpbamdpllnaaW.PrintWords Go.Proofs.YtpagpbamdpllnaaW.PrintLast Go.Proofs.YtpagpbamdpllnaaW.PrintMore
def laws_FnExactCoverOf.Pure:Prop:=∀ (l0:(List (List Bool))),(l0.length≤maxLen∧∀ x0 ∈ l0,(x0.length≤maxLen∧∀ x1 ∈ x0,True))→∃ k,laws_FnExactCoverOf.f k l0=some true
end Go.Proofs.Ytpagpbamdpllnaa.Print
namespace Go.Proofs.Ytpagpbamdpllnaa.Pure
open Go.RowKit Go.Proofs.Ytpagpbamdpllnaa.Print Go.Proofs.YtpagpbamdpllnaaW.PrintWords Go.Proofs.YtpagpbamdpllnaaW.PrintLast Go.Proofs.YtpagpbamdpllnaaW.PrintMore

theorem Ev.of_eq {α : Type} {g : Nat → Option α} {r : α} (h : ∀ k, g k = some r) : Ev g r := ⟨0, fun k _ => h k⟩
theorem Ev.bind0 {α β : Type} {o : Option α} {f : Nat → α → Option β} {a : α} {r : β} (h : o = some a) (k : Ev (fun n => f n a) r) : Ev (fun n => o.bind (f n)) r := by
  subst h; exact k
theorem Ev.pos {α : Type} {c : Prop} [Decidable c] {g f : Nat → Option α} {r : α} (h : c) (k : Ev g r) : Ev (fun n => if c then g n else f n) r := by
  simpa only [if_pos h] using k
theorem Ev.neg {α : Type} {c : Prop} [Decidable c] {g f : Nat → Option α} {r : α} (h : ¬ c) (k : Ev f r) : Ev (fun n => if c then g n else f n) r := by
  simpa only [if_neg h] using k
theorem Ev.ite {α : Type} {c : Prop} [Decidable c] {g f : Nat → Option α} {r : α} (h : c → Ev g r) (k : ¬ c → Ev f r) : Ev (fun n => if c then g n else f n) r := by
  by_cases hc : c
  · exact Ev.pos hc (h hc)
  · exact Ev.neg hc (k hc)
theorem Ev.step0 {α : Type} {g f : Nat → Option α} {r : α} (k : Ev f r) (h : ∀ k, g (k + 1) = f k) : Ev g r := Ev.step h k
theorem Ev.to {α : Type} {g : Nat → Option α} {r s : α} (k : Ev g r) (h : r = s) : Ev g s := h ▸ k
theorem ev_up {β : Type} (n : Nat) (g : Nat → Nat → Option β) (r : β) (I : Nat → Prop) (h0 : I 0)
    (hend : I n → Ev (fun k => g k n) r) (hstep : ∀ i, i < n → I i → (I (i + 1) → Ev (fun k => g k (i + 1)) r) → Ev (fun k => g k i) r) : Ev (fun k => g k 0) r := by
  have h : ∀ d i, i + d = n → I i → Ev (fun k => g k i) r := by
    intro d
    induction d with
    | zero => intro i hi hI; obtain rfl : i = n := by omega
              exact hend hI
    | succ d ih => intro i hi hI; exact hstep i (by omega) hI fun hI' => ih (i + 1) (by omega) hI'
  exact h n 0 (by omega) h0
theorem w64 {x : Int} (h1 : -9223372036854775808 ≤ x) (h2 : x < 9223372036854775808) : wrap64 x = x := by unfold wrap64; omega
theorem rd_nat (l : List Int) (i : Nat) (h : i < l.length) : rd l (i : Int) = l[i] := by simp [rd, h]
theorem toNat_nat (i : Nat) : ((i : Int)).toNat = i := Int.toNat_natCast i
theorem lt_len {α : Type} {l : List α} {i : Nat} (h : i < l.length) : (i : Int) < (l.length : Int) := by omega
def allIn (l : List Int) (lo hi : Int) : Bool := l.all fun x => decide (lo ≤ x) && decide (x ≤ hi)
theorem Ev.succ {α : Type} {g : Nat → Option α} {r : α} (h : Ev (fun k => g (k + 1)) r) : Ev g r := Ev.step (fun _ => rfl) h
theorem exists_nat_of_nonneg {x : Int} (h : 0 ≤ x) : ∃ n : Nat, x = n := ⟨x.toNat, by omega⟩
theorem Ev.uniq {α : Type} {g : Nat → Option α} {r s : α} (h : Ev g r) (h' : Ev g s) : r = s := by
  obtain ⟨K, hK⟩ := h
  obtain ⟨K', hK'⟩ := h'
  have e := hK (max K K') (Nat.le_max_left _ _)
  rw [hK' (max K K') (Nat.le_max_right _ _)] at e
  exact (Option.some.inj e).symm

theorem laws_eqIntS_ev (l : List Int) (hl : l.length ≤ 1048576) : Ev (fun k => laws_eqIntS.f k l l) true := by
  unfold laws_eqIntS.f
  refine Ev.pos rfl ?_
  refine ev_up l.length (fun k i => laws_eqIntS.l0 k l l (i : Int)) _ (fun _ => True) trivial ?_ ?_
  · intro _
    refine Ev.step0 (Ev.of_eq fun _ => rfl) fun k => ?_
    simp only [laws_eqIntS.l0]; rw [if_neg (by omega)]
  · intro i hi' _ hn
    refine Ev.step0 (hn trivial) fun k => ?_
    simp only [laws_eqIntS.l0]; rw [if_pos (lt_len hi'), if_pos (by omega), if_pos (lt_len hi'), if_true, w64 (by omega) (by omega)]; rfl

def lowNum (a b : Int) : Int := if b < 0 then Int.tdiv (-a) (Int.gcd a b) else Int.tdiv a (Int.gcd a b)
def lowDen (a b : Int) : Int := if b < 0 then Int.tdiv (-b) (Int.gcd a b) else Int.tdiv b (Int.gcd a b)
def goodFrac (a b : Int) : Bool := decide (-1000000000 ≤ a) && decide (a ≤ 1000000000) && (decide (1 ≤ b) && decide (b ≤ 1000000000)) && decide (Int.gcd a b = 1)

def flowOk (flow : List Int) : Bool := decide (1 ≤ (flow.length : Int)) && decide ((flow.length : Int) ≤ 8) && allIn flow 1 30
def countsOk (flow counts : List Int) : Bool := flowOk flow && (decide ((counts.length : Int) = (flow.length : Int)) && (allIn counts 1 40 && decide (counts.sum ≤ 40)))
def gn (f c : Int) : Int := lowNum f (c * (c + 1))
def gd (f c : Int) : Int := lowDen f (c * (c + 1))
def bestUp (lt : Nat → Nat → Bool) : Nat → Nat
  | 0 => 0
  | i + 1 => if lt (bestUp lt i) i = true then i else bestUp lt i
def gainLt (flow counts : List Int) (b i : Nat) : Bool := decide (gn flow[b]! counts[b]! * gd flow[i]! counts[i]! < gn flow[i]! counts[i]! * gd flow[b]! counts[b]!)
def nextOf (flow counts : List Int) : Nat := bestUp (gainLt flow counts) flow.length

def bump (flow counts : List Int) : List Int := counts.set (nextOf flow counts) (counts[nextOf flow counts]! + 1)
def shareUp (flow : List Int) : Nat → List Int
  | 0 => List.replicate flow.length 1
  | i + 1 => bump flow (shareUp flow i)
def shareOf (flow : List Int) (places : Int) : List Int := shareUp flow (places - flow.length).toNat
def kindsOk (flow : List Int) (places : Int) : Bool := flowOk flow && (decide ((flow.length : Int) ≤ places) && decide (places ≤ 40))

def upFrom (k : Int) (n : Nat) : List Int := (List.range n).map fun (j : Nat) => k + (j : Int)
theorem upFrom_length (k : Int) (n : Nat) : (upFrom k n).length = n := by simp [upFrom]
theorem upFrom_get (k : Int) (n i : Nat) (h : i < n) : (upFrom k n)[i]'(by rw [upFrom_length]; exact h) = k + (i : Int) := by simp [upFrom]
theorem upFrom_succ (k : Int) (n : Nat) : upFrom k (n + 1) = upFrom k n ++ [k + (n : Int)] := by simp [upFrom, List.range_succ]
theorem laws_markIntS_ev (l : List Int) (k0 : Int) (h0 : 0 ≤ k0 ∧ k0 ≤ 1073741824) (hl : l.length ≤ 1048576) : Ev (fun k => laws_markIntS.f k l k0) (k0 + (l.length : Int), upFrom k0 l.length) := by
  unfold laws_markIntS.f
  have key := ev_up l.length (fun k i => laws_markIntS.l0 k (upFrom k0 i ++ l.drop i) (k0 + (i : Int)) (i : Int)) (k0 + (l.length : Int), upFrom k0 l.length) (fun _ => True) trivial ?_ ?_
  · simpa [upFrom] using key
  · intro _
    refine Ev.succ ?_
    simp only [laws_markIntS.l0]
    refine Ev.neg (by simp [upFrom_length]) ?_
    rw [List.drop_length, List.append_nil]; exact Ev.now _
  · intro i hi _ hn
    refine Ev.succ ?_
    simp only [laws_markIntS.l0]
    have hlen : (upFrom k0 i ++ l.drop i).length = l.length := by simp [upFrom_length]; omega
    refine Ev.pos (by rw [hlen]; exact lt_len hi) (Ev.pos (by omega) ?_)
    rw [toNat_nat, w64 (x := (i : Int) + 1) (by omega) (by omega), w64 (by omega) (by omega)]
    have hs : (upFrom k0 i ++ l.drop i).set i (k0 + (i : Int)) = upFrom k0 (i + 1) ++ l.drop (i + 1) := by
      rw [List.set_append_right _ _ (by rw [upFrom_length]; exact Nat.le_refl _), upFrom_length, Nat.sub_self, List.drop_eq_getElem_cons hi, List.set_cons_zero, upFrom_succ, List.append_assoc]; rfl
    rw [hs, Int.add_assoc]
    exact hn trivial

theorem laws_heldIntS_ev (n : Nat) (k0 : Int) (h0 : 0 ≤ k0 ∧ k0 ≤ 1073741824) (hl : n ≤ 1048576) : Ev (fun k => laws_heldIntS.f k (upFrom k0 n) k0) (k0 + (n : Int)) := by
  unfold laws_heldIntS.f
  have key := ev_up n (fun k i => laws_heldIntS.l0 k (upFrom k0 n) (k0 + (i : Int)) (i : Int)) (k0 + (n : Int)) (fun _ => True) trivial ?_ ?_
  · simpa using key
  · intro _
    refine Ev.succ ?_
    simp only [laws_heldIntS.l0]
    exact Ev.neg (by simp [upFrom_length]) (Ev.now _)
  · intro i hi _ hn
    refine Ev.succ ?_
    simp only [laws_heldIntS.l0]
    have hi' : i < (upFrom k0 n).length := by rw [upFrom_length]; exact hi
    refine Ev.pos (lt_len hi') (Ev.pos (by omega) (Ev.pos (by rw [rd_nat _ _ hi', upFrom_get _ _ _ hi]) ?_))
    rw [w64 (x := (i : Int) + 1) (by omega) (by omega), w64 (by omega) (by omega), Int.add_assoc]
    exact hn trivial

theorem rdOf_nat {α : Type} (d : α) (l : List α) (i : Nat) (h : i < l.length) : rdOf d l (i : Int) = l[i] := by simp [rdOf, h]
theorem w64n {i n : Nat} (h : i < n) (hn : n ≤ 4611686018427387904) : wrap64 ((i : Int) + 1) = ((i + 1 : Nat) : Int) := by rw [w64 (by omega) (by omega)]; rfl
theorem ev_indexFunc {α : Type} (l : List α) (rdx : Int → α) (hr : ∀ (i : Nat) (h : i < l.length), rdx (i : Int) = l[i]) (c : Nat → α → Option Bool) (p : α → Bool)
    (hc : ∀ x ∈ l, Ev (fun k => c k x) (p x)) (g : Nat → Int → Option Int)
    (hg : ∀ k i, g (k + 1) i = if i < (l.length : Int) then (if 0 ≤ i then (if i < (l.length : Int) then ((c k (rdx i)).bind fun t => if t = true then some i else g k (wrap64 (i + 1))) else none) else none) else some (-1))
    (hl : l.length ≤ 4611686018427387904) : ∃ j : Int, decide (j ≥ 0) = l.any p ∧ Ev (fun k => g k 0) j := by
  have gen : ∀ (d i : Nat), i + d = l.length → ∃ j : Int, decide (j ≥ 0) = (l.drop i).any p ∧ Ev (fun k => g k (i : Int)) j := by
    intro d
    induction d with
    | zero =>
      intro i hi
      refine ⟨-1, by rw [List.drop_of_length_le (by omega)]; rfl, Ev.step0 (Ev.of_eq fun _ => rfl) fun k => ?_⟩
      rw [hg, if_neg (by omega)]
    | succ d ih =>
      intro i hi
      have hi' : i < l.length := by omega
      have hd : (l.drop i).any p = (p l[i] || (l.drop (i + 1)).any p) := by rw [List.drop_eq_getElem_cons hi', List.any_cons]
      have hcx := hc l[i] (List.getElem_mem hi')
      cases hp : p l[i] with
      | true =>
        refine ⟨i, by rw [hd, hp]; simp, Ev.step (fun k => hg k _) (Ev.pos (by omega) (Ev.pos (by omega) (Ev.pos (by omega) ?_)))⟩
        rw [hr i hi']
        exact Ev.bind hcx (Ev.pos hp (Ev.now _))
      | false =>
        obtain ⟨j, hj, hev⟩ := ih (i + 1) (by omega)
        refine ⟨j, by rw [hd, hp, hj]; rfl, Ev.step (fun k => hg k _) (Ev.pos (by omega) (Ev.pos (by omega) (Ev.pos (by omega) ?_)))⟩
        rw [hr i hi', w64 (by omega) (by omega)]
        exact Ev.bind hcx (Ev.neg (by rw [hp]; simp) hev)
  have := gen l.length 0 (by omega)
  simpa using this
theorem any_not_all {α : Type} (l : List α) (p : α → Bool) : l.any (fun x => !p x) = !(l.all p) := by
  induction l with
  | nil => rfl
  | cons a l ih => simp [ih]
def wayOf (a b c d : Int) : Int := if a = c then ((b - d).natAbs : Int) else 3 * ((a - c).natAbs : Int) + (if 40 - (b + d) < b + d then 40 - (b + d) else b + d)
def spotOk (a b : Int) : Bool := (decide (0 ≤ a) && decide (a ≤ 9)) && (decide (0 ≤ b) && decide (b ≤ 20))

inductive Tk (F : Nat → Nat → Bool) (nb : Nat) : Nat → Nat → List Int → List Bool → Bool → List Int → List Bool → Prop where
  | done {l b : Nat} {o : List Int} {t : List Bool} : nb ≤ b → Tk F nb l b o t false o t
  | skip {l b : Nat} {o o' : List Int} {t t' : List Bool} {r : Bool} : b < nb → (F l b = false ∨ rdOf false t (b : Int) = true) → Tk F nb l (b + 1) o t r o' t' → Tk F nb l b o t r o' t'
  | free {l b : Nat} {o : List Int} {t : List Bool} : b < nb → F l b = true → rdOf false t (b : Int) = false → rd o (b : Int) < 0 → Tk F nb l b o t true (o.set b (l : Int)) (t.set b true)
  | push {l b m : Nat} {o o' : List Int} {t t' : List Bool} : b < nb → F l b = true → rdOf false t (b : Int) = false → rd o (b : Int) = (m : Int) → Tk F nb m 0 o (t.set b true) true o' t' → Tk F nb l b o t true (o'.set b (l : Int)) t'
  | fail {l b m : Nat} {o o' o'' : List Int} {t t' t'' : List Bool} {r : Bool} : b < nb → F l b = true → rdOf false t (b : Int) = false → rd o (b : Int) = (m : Int) → Tk F nb m 0 o (t.set b true) false o' t' → Tk F nb l (b + 1) o' t' r o'' t'' → Tk F nb l b o t r o'' t''
theorem rd_setn (o : List Int) (b x : Nat) (v : Int) (h : b < o.length) : rd (o.set b v) (x : Int) = if x = b then v else rd o (x : Int) := by
  simp only [rd, Int.toNat_natCast, List.getD_eq_getElem?_getD, List.getElem?_set]
  by_cases hx : b = x
  · subst hx; simp [h]
  · rw [if_neg hx, if_neg (fun e => hx e.symm)]
theorem rdOf_setn (t : List Bool) (b x : Nat) (v : Bool) (h : b < t.length) : rdOf false (t.set b v) (x : Int) = if x = b then v else rdOf false t (x : Int) := by
  simp only [rdOf, Int.toNat_natCast, List.getD_eq_getElem?_getD, List.getElem?_set]
  by_cases hx : b = x
  · subst hx; simp [h]
  · rw [if_neg hx, if_neg (fun e => hx e.symm)]
theorem Tk.len {F : Nat → Nat → Bool} {nb l b : Nat} {o o' : List Int} {t t' : List Bool} {r : Bool} (h : Tk F nb l b o t r o' t') : o'.length = o.length ∧ t'.length = t.length := by
  induction h with
  | done _ => exact ⟨rfl, rfl⟩
  | skip _ _ _ ih => exact ih
  | free _ _ _ _ => simp
  | push _ _ _ _ _ ih => simp at ih ⊢; exact ih
  | fail _ _ _ _ _ _ ih1 ih2 => simp at ih1; exact ⟨by omega, by omega⟩
theorem Tk.rng {F : Nat → Nat → Bool} {nb n l b : Nat} {o o' : List Int} {t t' : List Bool} {r : Bool} (h : Tk F nb l b o t r o' t') :
    o.length = nb → l < n → (∀ x : Nat, x < nb → -1 ≤ rd o (x : Int) ∧ rd o (x : Int) < n) → ∀ x : Nat, x < nb → -1 ≤ rd o' (x : Int) ∧ rd o' (x : Int) < n := by
  induction h with
  | done _ => intro _ _ h; exact h
  | skip _ _ _ ih => exact ih
  | free hb _ _ _ => intro ho hl h x hx; rw [rd_setn _ _ _ _ (by omega)]; split
                     · omega
                     · exact h x hx
  | push hb _ _ hm ht ih =>
    intro ho hl h x hx
    have h1 := h _ hb
    rw [rd_setn _ _ _ _ (by have := ht.len; omega)]; split
    · omega
    · exact ih ho (by omega) h x hx
  | fail hb _ _ hm ht _ ih1 ih2 =>
    intro ho hl h
    have h1 := h _ hb
    exact ih2 (by have := ht.len; omega) hl (ih1 ho (by omega) h)
theorem Tk.mono {F : Nat → Nat → Bool} {nb l b : Nat} {o o' : List Int} {t t' : List Bool} {r : Bool} (h : Tk F nb l b o t r o' t') :
    t.length = nb → ∀ x : Nat, rdOf false t (x : Int) = true → rdOf false t' (x : Int) = true := by
  induction h with
  | done _ => intro _ _ h; exact h
  | skip _ _ _ ih => exact ih
  | free hb _ _ _ => intro ht x hx; rw [rdOf_setn _ _ _ _ (by omega)]; split
                     · rfl
                     · exact hx
  | push hb _ _ _ _ ih => intro ht x hx; exact ih (by simpa using ht) x (by rw [rdOf_setn _ _ _ _ (by omega)]; split <;> simp_all)
  | fail hb _ _ _ hs _ ih1 ih2 => intro ht x hx; exact ih2 (by have := hs.len; simp at this; omega) x (ih1 (by simpa using ht) x (by rw [rdOf_setn _ _ _ _ (by omega)]; split <;> simp_all))
theorem Tk.kept {F : Nat → Nat → Bool} {nb l b : Nat} {o o' : List Int} {t t' : List Bool} {r : Bool} (h : Tk F nb l b o t r o' t') :
    o.length = nb → t.length = nb → ∀ x : Nat, rdOf false t (x : Int) = true → rd o' (x : Int) = rd o (x : Int) := by
  induction h with
  | done _ => intro _ _ _ _; rfl
  | skip _ _ _ ih => exact ih
  | free hb _ h0 _ =>
    intro ho ht x hx; rw [rd_setn _ _ _ _ (by omega)]; split
    · subst x; rw [h0] at hx; cases hx
    · rfl
  | push hb _ h0 _ hs ih =>
    intro ho ht x hx
    rw [rd_setn _ _ _ _ (by have := hs.len; omega)]; split
    · subst x; rw [h0] at hx; cases hx
    · exact ih ho (by simpa using ht) x (by rw [rdOf_setn _ _ _ _ (by omega)]; split <;> simp_all)
  | @fail l b m o o' o'' t t' t'' r hb _ h0 _ hs _ ih1 ih2 =>
    intro ho ht x hx
    have h1 : rdOf false (t.set b true) (x : Int) = true := by rw [rdOf_setn _ _ _ _ (by omega)]; split <;> simp_all
    have := hs.len; simp at this
    rw [ih2 (by omega) (by omega) x (hs.mono (by simpa using ht) x h1), ih1 ho (by simpa using ht) x h1]
theorem Tk.dead {F : Nat → Nat → Bool} {nb l b : Nat} {o o' : List Int} {t t' : List Bool} {r : Bool} (h : Tk F nb l b o t r o' t') (D : Nat → Prop) :
    o.length = nb → (∀ x, D x → x < nb ∧ ∃ m : Nat, rd o (x : Int) = (m : Int) ∧ ∀ y, y < nb → F m y = true → D y) →
    (∀ x, D x → rd o' (x : Int) = rd o (x : Int)) ∧ ((∀ x, b ≤ x → x < nb → F l x = true → D x) → r = false) := by
  induction h with
  | done _ => intro _ _; exact ⟨fun _ _ => rfl, fun _ => rfl⟩
  | skip hb hc hs ih => intro ho hD; exact ⟨(ih ho hD).1, fun hF => (ih ho hD).2 fun x h1 h2 h3 => hF x (by omega) h2 h3⟩
  | @free l b o t hb hf h0 hn =>
    intro ho hD
    have hno : ¬ D b := fun hd => by obtain ⟨_, m, hm, _⟩ := hD b hd; omega
    refine ⟨fun x hx => ?_, fun hF => absurd (hF b (Nat.le_refl _) hb hf) hno⟩
    rw [rd_setn _ _ _ _ (by omega), if_neg]
    intro e; subst e; exact hno hx
  | @push l b m o o' t t' hb hf h0 hm hs ih =>
    intro ho hD
    obtain ⟨i1, i2⟩ := ih ho hD
    have hno : ¬ D b := fun hd => by
      obtain ⟨_, m', hm', hy⟩ := hD b hd
      have e : m' = m := by omega
      subst e
      exact absurd (i2 fun x _ h2 h3 => hy x h2 h3) (by simp)
    refine ⟨fun x hx => ?_, fun hF => absurd (hF b (Nat.le_refl _) hb hf) hno⟩
    rw [rd_setn _ _ _ _ (by have := hs.len; omega), if_neg, i1 x hx]
    intro e; subst e; exact hno hx
  | @fail l b m o o' o'' t t' t'' r hb hf h0 hm hs hr ih1 ih2 =>
    intro ho hD
    obtain ⟨i1, _⟩ := ih1 ho hD
    obtain ⟨j1, j2⟩ := ih2 (by have := hs.len; omega) (fun x hx => by
      obtain ⟨h1, m', h2, h3⟩ := hD x hx
      exact ⟨h1, m', by rw [i1 x hx]; exact h2, h3⟩)
    exact ⟨fun x hx => by rw [j1 x hx, i1 x hx], fun hF => j2 fun x h1 h2 h3 => hF x (by omega) h2 h3⟩
theorem Tk.fails {F : Nat → Nat → Bool} {nb l b : Nat} {o o' : List Int} {t t' : List Bool} {r : Bool} (h : Tk F nb l b o t r o' t') :
    t.length = nb → r = false → o' = o ∧ (∀ x, b ≤ x → x < nb → F l x = true → rdOf false t' (x : Int) = true) ∧
      ∀ x : Nat, x < nb → rdOf false t' (x : Int) = true → rdOf false t (x : Int) = true ∨ ∃ m : Nat, rd o (x : Int) = (m : Int) ∧ ∀ y, y < nb → F m y = true → rdOf false t' (y : Int) = true := by
  induction h with
  | done hb => intro _ _; exact ⟨rfl, fun x h1 h2 _ => by omega, fun x _ h => .inl h⟩
  | @skip l b o o' t t' r hb hc hs ih =>
    intro ht hr
    obtain ⟨h1, h2, h3⟩ := ih ht hr
    refine ⟨h1, fun x a1 a2 a3 => ?_, h3⟩
    rcases Nat.lt_or_ge b x with h | h
    · exact h2 x h a2 a3
    · obtain rfl : x = b := by omega
      rcases hc with hc | hc
      · rw [hc] at a3; cases a3
      · exact hs.mono ht x hc
  | free _ _ _ _ => intro _ hr; cases hr
  | push _ _ _ _ _ _ => intro _ hr; cases hr
  | @fail l b m o o' o'' t t' t'' r hb hf h0 hm hs hq ih1 ih2 =>
    intro ht hr
    have hl := hs.len; simp at hl
    obtain ⟨e1, f1, g1⟩ := ih1 (by simpa using ht) rfl
    obtain ⟨e2, f2, g2⟩ := ih2 (by omega) hr
    have mo := hq.mono (by omega)
    have mb : rdOf false t' (b : Int) = true := hs.mono (by simpa using ht) b (by rw [rdOf_setn _ _ _ _ (by omega), if_pos rfl])
    subst e1
    refine ⟨e2, fun x a1 a2 a3 => ?_, fun x a1 a2 => ?_⟩
    · rcases Nat.lt_or_ge b x with h | h
      · exact f2 x h a2 a3
      · obtain rfl : x = b := by omega
        exact mo x mb
    · rcases g2 x a1 a2 with h | h
      · rcases g1 x a1 h with h' | ⟨m', h1, h2⟩
        · rw [rdOf_setn _ _ _ _ (by omega)] at h'
          split at h'
          · subst x; exact .inr ⟨m, hm, fun y hy hy2 => mo y (f1 y (Nat.zero_le _) hy hy2)⟩
          · exact .inl h'
        · exact .inr ⟨m', h1, fun y hy hy2 => mo y (h2 y hy hy2)⟩
      · exact .inr h
structure Owns (F : Nat → Nat → Bool) (U : Nat → Prop) (o : List Int) : Prop where
  inj : ∀ x y (m : Nat), U x → U y → rd o (x : Int) = (m : Int) → rd o (y : Int) = (m : Int) → x = y
  fit : ∀ x (m : Nat), U x → rd o (x : Int) = (m : Int) → F m x = true
theorem Tk.takes {F : Nat → Nat → Bool} {nb l b : Nat} {o o' : List Int} {t t' : List Bool} {r : Bool} (h : Tk F nb l b o t r o' t') :
    o.length = nb → t.length = nb → r = true → Owns F (fun x => x < nb ∧ rdOf false t (x : Int) = false) o → (∀ x : Nat, x < nb → rdOf false t (x : Int) = false → rd o (x : Int) ≠ (l : Int)) →
    Owns F (fun x => x < nb ∧ rdOf false t (x : Int) = false) o' ∧ ∀ m : Nat, (∃ x : Nat, (x < nb ∧ rdOf false t (x : Int) = false) ∧ rd o' (x : Int) = (m : Int)) ↔ (m = l ∨ ∃ x : Nat, (x < nb ∧ rdOf false t (x : Int) = false) ∧ rd o (x : Int) = (m : Int)) := by
  induction h with
  | done _ => intro _ _ hr; cases hr
  | skip _ _ _ ih => exact ih
  | @free l b o t hb hf h0 hn =>
    intro ho ht _ hO hl
    have e : ∀ x : Nat, rd (o.set b (l : Int)) (x : Int) = if x = b then (l : Int) else rd o (x : Int) := fun x => rd_setn _ _ _ _ (by omega)
    refine ⟨⟨fun x y m hx hy h1 h2 => ?_, fun x m hx h1 => ?_⟩, fun m => ⟨?_, ?_⟩⟩
    · rw [e] at h1 h2
      split at h1 <;> split at h2
      · omega
      · have := hl y hy.1 hy.2; omega
      · have := hl x hx.1 hx.2; omega
      · exact hO.inj x y m hx hy h1 h2
    · rw [e] at h1
      split at h1
      · obtain rfl : l = m := by omega
        subst x; exact hf
      · exact hO.fit x m hx h1
    · rintro ⟨x, hx, h1⟩
      rw [e] at h1
      split at h1
      · exact .inl (by omega)
      · exact .inr ⟨x, hx, h1⟩
    · rintro (h1 | ⟨x, hx, h1⟩)
      · exact ⟨b, ⟨hb, h0⟩, by rw [e, if_pos rfl, h1]⟩
      · refine ⟨x, hx, ?_⟩
        rw [e, if_neg]
        · exact h1
        · intro e2; subst e2; omega
  | @push l b m o o' t t' hb hf h0 hm hs ih =>
    intro ho ht _ hO hl
    have e1 : ∀ x : Nat, rdOf false (t.set b true) (x : Int) = if x = b then true else rdOf false t (x : Int) := fun x => rdOf_setn _ _ _ _ (by omega)
    have sub : ∀ x : Nat, (x < nb ∧ rdOf false (t.set b true) (x : Int) = false) ↔ (x < nb ∧ rdOf false t (x : Int) = false) ∧ x ≠ b := fun x => by
      rw [e1]; split
      · simp_all
      · simp_all
    have e : ∀ x : Nat, rd (o'.set b (l : Int)) (x : Int) = if x = b then (l : Int) else rd o' (x : Int) := fun x => rd_setn _ _ _ _ (by have := hs.len; omega)
    obtain ⟨hO', hL⟩ := ih ho (by simpa using ht) rfl ⟨fun x y k hx hy => hO.inj x y k ((sub x).mp hx).1 ((sub y).mp hy).1, fun x k hx => hO.fit x k ((sub x).mp hx).1⟩
      (fun x h1 h2 h3 => ((sub x).mp ⟨h1, h2⟩).2 (hO.inj x b m ((sub x).mp ⟨h1, h2⟩).1 ⟨hb, h0⟩ h3 hm))
    have hlm : l ≠ m := fun e2 => hl b hb h0 (by rw [hm, e2])
    have hlo : ∀ x : Nat, x < nb → rdOf false t (x : Int) = false → x ≠ b → rd o' (x : Int) ≠ (l : Int) := fun x h1 h2 h3 h4 => by
      rcases (hL l).mp ⟨x, (sub x).mpr ⟨⟨h1, h2⟩, h3⟩, h4⟩ with h5 | ⟨y, h5, h6⟩
      · exact hlm h5
      · exact hl y ((sub y).mp h5).1.1 ((sub y).mp h5).1.2 h6
    refine ⟨⟨fun x y k hx hy h1 h2 => ?_, fun x k hx h1 => ?_⟩, fun k => ⟨?_, ?_⟩⟩
    · rw [e] at h1 h2
      split at h1 <;> split at h2
      · omega
      · rename_i q1 q2; exact absurd (show rd o' (y : Int) = (l : Int) by omega) (hlo y hy.1 hy.2 q2)
      · rename_i q1 q2; exact absurd (show rd o' (x : Int) = (l : Int) by omega) (hlo x hx.1 hx.2 q1)
      · rename_i q1 q2; exact hO'.inj x y k ((sub x).mpr ⟨hx, q1⟩) ((sub y).mpr ⟨hy, q2⟩) h1 h2
    · rw [e] at h1
      split at h1
      · obtain rfl : l = k := by omega
        subst x; exact hf
      · rename_i q; exact hO'.fit x k ((sub x).mpr ⟨hx, q⟩) h1
    · rintro ⟨x, hx, h1⟩
      rw [e] at h1
      split at h1
      · exact .inl (by omega)
      · rename_i q
        rcases (hL k).mp ⟨x, (sub x).mpr ⟨hx, q⟩, h1⟩ with h2 | ⟨y, h2, h3⟩
        · exact .inr ⟨b, ⟨hb, h0⟩, by rw [hm, h2]⟩
        · exact .inr ⟨y, ((sub y).mp h2).1, h3⟩
    · rintro (h1 | ⟨x, hx, h1⟩)
      · exact ⟨b, ⟨hb, h0⟩, by rw [e, if_pos rfl, h1]⟩
      · have : k = m ∨ ∃ y : Nat, (y < nb ∧ rdOf false (t.set b true) (y : Int) = false) ∧ rd o (y : Int) = (k : Int) := by
          by_cases q : x = b
          · subst q; exact .inl (by omega)
          · exact .inr ⟨x, (sub x).mpr ⟨hx, q⟩, h1⟩
        obtain ⟨y, hy, hy2⟩ := (hL k).mpr this
        exact ⟨y, ((sub y).mp hy).1, by rw [e, if_neg ((sub y).mp hy).2]; exact hy2⟩
  | @fail l b m o o' o'' t t' t'' r hb hf h0 hm hs hq ih1 ih2 =>
    intro ho ht hr hO hl
    have ln := hs.len; simp at ln
    obtain ⟨rfl, _, _⟩ := hs.fails (by simpa using ht) rfl
    have mo : ∀ x : Nat, rdOf false t' (x : Int) = false → rdOf false t (x : Int) = false := fun x hx => by
      cases hh : rdOf false t (x : Int) with
      | false => rfl
      | true => rw [hs.mono (by simpa using ht) x (by rw [rdOf_setn _ _ _ _ (by omega)]; split <;> simp_all)] at hx; cases hx
    obtain ⟨hO', hL⟩ := ih2 ho (by omega) hr ⟨fun x y k hx hy => hO.inj x y k ⟨hx.1, mo x hx.2⟩ ⟨hy.1, mo y hy.2⟩, fun x k hx => hO.fit x k ⟨hx.1, mo x hx.2⟩⟩ (fun x h1 h2 => hl x h1 (mo x h2))
    have kp := hq.kept ho (by omega)
    have two : ∀ x : Nat, rdOf false t' (x : Int) = false ∨ rd o'' (x : Int) = rd o' (x : Int) := fun x => by
      cases hh : rdOf false t' (x : Int) with
      | false => exact .inl rfl
      | true => exact .inr (kp x hh)
    have cross : ∀ (x y k : Nat), x < nb → rdOf false t' (x : Int) = false → y < nb → rdOf false t (y : Int) = false → rdOf false t' (y : Int) = true → rd o'' (x : Int) = (k : Int) → rd o'' (y : Int) = (k : Int) → False := fun x y k h1 h2 h3 h4 h5 h6 h7 => by
      rw [kp y h5] at h7
      rcases (hL k).mp ⟨x, ⟨h1, h2⟩, h6⟩ with h8 | ⟨z, h8, h9⟩
      · exact hl y h3 h4 (by rw [h7, h8])
      · have := hO.inj z y k ⟨h8.1, mo z h8.2⟩ ⟨h3, h4⟩ h9 h7
        subst this; rw [h5] at h8; cases h8.2
    refine ⟨⟨fun x y k hx hy h1 h2 => ?_, fun x k hx h1 => ?_⟩, fun k => ⟨?_, ?_⟩⟩
    · cases hx2 : rdOf false t' (x : Int) <;> cases hy2 : rdOf false t' (y : Int)
      · exact hO'.inj x y k ⟨hx.1, hx2⟩ ⟨hy.1, hy2⟩ h1 h2
      · exact (cross x y k hx.1 hx2 hy.1 hy.2 hy2 h1 h2).elim
      · exact (cross y x k hy.1 hy2 hx.1 hx.2 hx2 h2 h1).elim
      · rw [kp x hx2] at h1; rw [kp y hy2] at h2; exact hO.inj x y k hx hy h1 h2
    · cases hx2 : rdOf false t' (x : Int)
      · exact hO'.fit x k ⟨hx.1, hx2⟩ h1
      · rw [kp x hx2] at h1; exact hO.fit x k hx h1
    · rintro ⟨x, hx, h1⟩
      cases hx2 : rdOf false t' (x : Int)
      · rcases (hL k).mp ⟨x, ⟨hx.1, hx2⟩, h1⟩ with h2 | ⟨y, h2, h3⟩
        · exact .inl h2
        · exact .inr ⟨y, ⟨h2.1, mo y h2.2⟩, h3⟩
      · rw [kp x hx2] at h1; exact .inr ⟨x, hx, h1⟩
    · rintro (h1 | ⟨x, hx, h1⟩)
      · obtain ⟨y, hy, hy2⟩ := (hL k).mpr (.inl h1)
        exact ⟨y, ⟨hy.1, mo y hy.2⟩, hy2⟩
      · cases hx2 : rdOf false t' (x : Int)
        · obtain ⟨y, hy, hy2⟩ := (hL k).mpr (.inr ⟨x, ⟨hx.1, hx2⟩, h1⟩)
          exact ⟨y, ⟨hy.1, mo y hy.2⟩, hy2⟩
        · exact ⟨x, hx, by rw [kp x hx2]; exact h1⟩
def cnt (p : Nat → Bool) : Nat → Nat
  | 0 => 0
  | n + 1 => cnt p n + (p n).toNat
theorem cnt_congr {p q : Nat → Bool} {n : Nat} (h : ∀ i, i < n → p i = q i) : cnt p n = cnt q n := by
  induction n with
  | zero => rfl
  | succ n ih => simp only [cnt]; rw [ih fun i hi => h i (by omega), h n (by omega)]
theorem cnt_le (p : Nat → Bool) (n : Nat) : cnt p n ≤ n := by
  induction n with
  | zero => simp [cnt]
  | succ n ih => simp only [cnt]; cases p n <;> simp <;> omega
theorem cnt_out {p : Nat → Bool} {n j : Nat} (hj : j < n) (hp : p j = true) : cnt p n = cnt (fun i => p i && decide (i ≠ j)) n + 1 := by
  induction n with
  | zero => omega
  | succ n ih =>
    simp only [cnt]
    by_cases e : j = n
    · subst e
      have : cnt (fun i => p i && decide (i ≠ j)) j = cnt p j := cnt_congr fun i hi => by simp; omega
      rw [this, hp]; simp
    · rw [ih (by omega)]
      have : (p n && decide (n ≠ j)) = p n := by simp; omega
      rw [this]; omega
theorem Tk.ex (F : Nat → Nat → Bool) (nb : Nat) : ∀ (u l b : Nat) (o : List Int) (t : List Bool), o.length = nb → t.length = nb → (∀ x : Nat, x < nb → -1 ≤ rd o (x : Int)) → cnt (fun i => !rdOf false t (i : Int)) nb = u →
    ∃ r o' t', Tk F nb l b o t r o' t' ∧ (∀ x : Nat, x < nb → -1 ≤ rd o' (x : Int)) ∧ cnt (fun i => !rdOf false t' (i : Int)) nb ≤ u := by
  intro u
  induction u using Nat.strongRecOn with
  | _ u ihu =>
    have inner : ∀ d l b (o : List Int) (t : List Bool), b + d = nb → o.length = nb → t.length = nb → (∀ x : Nat, x < nb → -1 ≤ rd o (x : Int)) → cnt (fun i => !rdOf false t (i : Int)) nb ≤ u →
        ∃ r o' t', Tk F nb l b o t r o' t' ∧ (∀ x : Nat, x < nb → -1 ≤ rd o' (x : Int)) ∧ cnt (fun i => !rdOf false t' (i : Int)) nb ≤ u := by
      intro d
      induction d with
      | zero => intro l b o t hb ho ht hr hu; exact ⟨false, o, t, .done (by omega), hr, hu⟩
      | succ d ih =>
        intro l b o t hb ho ht hr hu
        have hb' : b < nb := by omega
        by_cases hs : F l b = false ∨ rdOf false t (b : Int) = true
        · obtain ⟨r, o', t', h1, h2, h3⟩ := ih l (b + 1) o t (by omega) ho ht hr hu
          exact ⟨r, o', t', .skip hb' hs h1, h2, h3⟩
        · have hf : F l b = true := by cases hh : F l b <;> simp_all
          have h0 : rdOf false t (b : Int) = false := by cases hh : rdOf false t (b : Int) <;> simp_all
          have e : cnt (fun i => !rdOf false t (i : Int)) nb = cnt (fun i => !rdOf false (t.set b true) (i : Int)) nb + 1 := by
            rw [cnt_out hb' (by rw [h0]; rfl)]
            congr 1
            refine cnt_congr fun i hi => ?_
            rw [rdOf_setn _ _ _ _ (by omega)]; split <;> simp_all
          by_cases hn : rd o (b : Int) < 0
          · refine ⟨true, _, _, .free hb' hf h0 hn, fun x hx => ?_, by omega⟩
            rw [rd_setn _ _ _ _ (by omega)]; split
            · omega
            · exact hr x hx
          · obtain ⟨m, hm⟩ : ∃ m : Nat, rd o (b : Int) = m := ⟨(rd o (b : Int)).toNat, by omega⟩
            obtain ⟨r1, o1, t1, h1, h2, h3⟩ := ihu _ (show cnt (fun i => !rdOf false (t.set b true) (i : Int)) nb < u by omega) m 0 o (t.set b true) ho (by simpa using ht) hr rfl
            have ln := h1.len
            cases r1 with
            | true =>
              refine ⟨true, _, _, .push hb' hf h0 hm h1, fun x hx => ?_, by omega⟩
              rw [rd_setn _ _ _ _ (by omega)]; split
              · omega
              · exact h2 x hx
            | false =>
              obtain ⟨r, o', t', g1, g2, g3⟩ := ih l (b + 1) o1 t1 (by omega) (by omega) (by simp at ln; omega) h2 (by omega)
              exact ⟨r, o', t', .fail hb' hf h0 hm h1 g1, g2, g3⟩
    intro l b o t ho ht hr hu
    rcases Nat.lt_or_ge nb b with h | h
    · exact ⟨false, o, t, .done (by omega), hr, by omega⟩
    · exact inner (nb - b) l b o t (by omega) ho ht hr (by omega)
inductive Ks (F : Nat → Nat → Bool) (nb n : Nat) : Nat → List Int → List Int → Prop where
  | done {j : Nat} {o : List Int} : n ≤ j → Ks F nb n j o o
  | step {j : Nat} {o o' o'' : List Int} {t' : List Bool} {r : Bool} : j < n → Tk F nb j 0 o (List.replicate nb false) r o' t' → Ks F nb n (j + 1) o' o'' → Ks F nb n j o o''
structure Kuhn (F : Nat → Nat → Bool) (nb n : Nat) (o : List Int) : Prop where
  len : o.length = nb
  rng : ∀ x : Nat, x < nb → -1 ≤ rd o (x : Int) ∧ rd o (x : Int) < n
  inj : ∀ (x y m : Nat), x < nb → y < nb → rd o (x : Int) = (m : Int) → rd o (y : Int) = (m : Int) → x = y
  fit : ∀ (x m : Nat), x < nb → rd o (x : Int) = (m : Int) → F m x = true
  dead : ∃ D : Nat → Prop, (∀ x, D x → x < nb ∧ ∃ m : Nat, rd o (x : Int) = (m : Int) ∧ ∀ y, y < nb → F m y = true → D y) ∧ ∀ l, l < n → (∀ x : Nat, x < nb → rd o (x : Int) ≠ (l : Int)) → ∀ y, y < nb → F l y = true → D y
theorem rdOf_rep (nb x : Nat) : rdOf false (List.replicate nb false) (x : Int) = false := by
  simp only [rdOf, Int.toNat_natCast, List.getD_eq_getElem?_getD, List.getElem?_replicate]; split <;> rfl
theorem rd_rep (nb x : Nat) (v : Int) (h : x < nb) : rd (List.replicate nb v) (x : Int) = v := by
  simp [rd, List.getD_eq_getElem?_getD, List.getElem?_replicate, h]
theorem Kuhn.next {F : Nat → Nat → Bool} {nb j : Nat} {o o' : List Int} {t' : List Bool} {r : Bool} (h : Kuhn F nb j o) (ht : Tk F nb j 0 o (List.replicate nb false) r o' t') : Kuhn F nb (j + 1) o' := by
  obtain ⟨len, rng, inj, fit, D, hD, hU⟩ := h
  have ln := ht.len
  have rng' := ht.rng (n := j + 1) len (by omega) (fun x hx => by have := rng x hx; omega)
  have all : ∀ x : Nat, (x < nb ∧ rdOf false (List.replicate nb false) (x : Int) = false) ↔ x < nb := fun x => by rw [rdOf_rep]; simp
  obtain ⟨d1, d2⟩ := ht.dead D len hD
  cases r with
  | true =>
    obtain ⟨hO, hL⟩ := ht.takes len (by simp) rfl ⟨fun x y m hx hy => inj x y m hx.1 hy.1, fun x m hx => fit x m hx.1⟩ (fun x h1 _ h2 => by have := rng x h1; omega)
    refine ⟨by omega, rng', fun x y m hx hy => hO.inj x y m ((all x).mpr hx) ((all y).mpr hy), fun x m hx => hO.fit x m ((all x).mpr hx), D, fun x hx => ?_, fun l hl hu => ?_⟩
    · obtain ⟨h1, m, h2, h3⟩ := hD x hx
      exact ⟨h1, m, by rw [d1 x hx]; exact h2, h3⟩
    · refine hU l ?_ fun x hx hx2 => ?_
      · rcases Nat.lt_or_ge l j with h | h
        · exact h
        · obtain rfl : l = j := by omega
          obtain ⟨x, hx, hx2⟩ := (hL l).mpr (.inl rfl)
          exact absurd hx2 (hu x hx.1)
      · obtain ⟨y, hy, hy2⟩ := (hL l).mpr (.inr ⟨x, (all x).mpr hx, hx2⟩)
        exact hu y hy.1 hy2
  | false =>
    obtain ⟨rfl, f1, f2⟩ := ht.fails (by simp) rfl
    refine ⟨len, rng', inj, fit, fun x => x < nb ∧ (D x ∨ rdOf false t' (x : Int) = true), fun x hx => ?_, fun l hl hu y hy hF => ?_⟩
    · obtain ⟨h0, hx | hx⟩ := hx
      · obtain ⟨h1, m, h2, h3⟩ := hD x hx
        exact ⟨h1, m, h2, fun y hy hF => ⟨hy, .inl (h3 y hy hF)⟩⟩
      · rcases f2 x h0 hx with h | ⟨m, h1, h2⟩
        · rw [rdOf_rep] at h; cases h
        · exact ⟨h0, m, h1, fun y hy hF => ⟨hy, .inr (h2 y hy hF)⟩⟩
    · rcases Nat.lt_or_ge l j with h | h
      · exact ⟨hy, .inl (hU l h hu y hy hF)⟩
      · obtain rfl : l = j := by omega
        exact ⟨hy, .inr (f1 y (Nat.zero_le _) hy hF)⟩
theorem Kuhn.ex (F : Nat → Nat → Bool) (nb n : Nat) : ∀ (d j : Nat) (o : List Int), j + d = n → Kuhn F nb j o → ∃ o', Ks F nb n j o o' ∧ Kuhn F nb n o' := by
  intro d
  induction d with
  | zero => intro j o hj h; obtain rfl : j = n := by omega
            exact ⟨o, .done (Nat.le_refl _), h⟩
  | succ d ih =>
    intro j o hj h
    obtain ⟨r, o', t', h1, _, _⟩ := Tk.ex F nb _ j 0 o (List.replicate nb false) h.len (by simp) (fun x hx => (h.rng x hx).1) rfl
    obtain ⟨o'', h2, h3⟩ := ih (j + 1) o' (by omega) (h.next h1)
    exact ⟨o'', .step (by omega) h1 h2, h3⟩
theorem Kuhn.start (F : Nat → Nat → Bool) (nb : Nat) : Kuhn F nb 0 (List.replicate nb (-1)) := by
  have e : ∀ x : Nat, x < nb → rd (List.replicate nb (-1)) (x : Int) = -1 := fun x hx => rd_rep nb x (-1) hx
  refine ⟨by simp, fun x hx => by rw [e x hx]; omega, fun x y m hx _ h => by rw [e x hx] at h; omega, fun x m hx h => by rw [e x hx] at h; omega, fun _ => False, fun _ h => h.elim, fun l hl => by omega⟩
theorem kuhn (F : Nat → Nat → Bool) (nb n : Nat) : ∃ o, Ks F nb n 0 (List.replicate nb (-1)) o ∧ Kuhn F nb n o := Kuhn.ex F nb n n 0 _ (by omega) (Kuhn.start F nb)

theorem rep_one (x : Int) (n : Nat) (h : n ≤ 1048576) : slices_Repeat_int_int.f [x] (n : Int) = some (List.replicate n x) := by
  simp only [slices_Repeat_int_int.f]; rw [if_pos (by omega), toNat_nat]

def nbOf (fits : List (List Bool)) : Nat := (fits.getD 0 []).length
def rowOk (fits : List (List Bool)) (r : List Bool) : Bool := decide (r.length = nbOf fits) && decide (r.length ≤ 8)
def fitOk (fits : List (List Bool)) : Bool := decide (fits.length ≤ 8) && fits.all (rowOk fits)
def fitF (fits : List (List Bool)) (l b : Nat) : Bool := rdOf false (fits.getD l []) (b : Int)
theorem fits_rd (fits : List (List Bool)) (i : Nat) : rd_L7 fits (i : Int) = fits.getD i [] := by simp [rd_L7]
theorem fits_rd0 (fits : List (List Bool)) : rd_L7 fits 0 = fits.getD 0 [] := by simp [rd_L7]
theorem fits_get (fits : List (List Bool)) (i : Nat) (h : i < fits.length) : fits.getD i [] = fits[i] := by simp [h]
theorem fitOk_iff (fits : List (List Bool)) : fitOk fits = true ↔ fits.length ≤ 8 ∧ nbOf fits ≤ 8 ∧ ∀ i, i < fits.length → (fits.getD i []).length = nbOf fits := by
  simp only [fitOk, rowOk, Bool.and_eq_true, decide_eq_true_eq, List.all_eq_true]
  constructor
  · rintro ⟨h1, h2⟩
    refine ⟨h1, ?_, fun i hi => ?_⟩
    · rcases Nat.eq_zero_or_pos fits.length with h0 | h0
      · have : fits = [] := List.length_eq_zero_iff.mp h0
        subst this; simp [nbOf]
      · have := h2 fits[0] (List.getElem_mem h0)
        have e : nbOf fits = fits[0].length := by unfold nbOf; rw [fits_get fits 0 h0]
        omega
    · rw [fits_get fits i hi]; exact (h2 _ (List.getElem_mem hi)).1
  · rintro ⟨h1, h2, h3⟩
    refine ⟨h1, fun r hr => ?_⟩
    obtain ⟨i, hi, rfl⟩ := List.getElem_of_mem hr
    have := h3 i hi
    rw [fits_get fits i hi] at this
    omega

theorem impl_GoodFits_ev (fits : List (List Bool)) (h : fits.length ≤ 1048576) : Ev (fun k => impl_GoodFits.f k fits) (fitOk fits) := by
  unfold impl_GoodFits.f sl0_ContainsFunc.f sl1_IndexFunc.f
  by_cases h8 : (fits.length : Int) ≤ 8
  · refine Ev.pos h8 ?_
    obtain ⟨j, hj, hev⟩ := ev_indexFunc fits (rd_L7 fits) (fun i hi => by rw [fits_rd, fits_get fits i hi]) (fun _ x => impl_GoodFits_1.f x fits) (fun r => !rowOk fits r) (fun x hx => by
      have h0 : 0 < fits.length := List.length_pos_of_mem hx
      refine Ev.of_eq fun _ => ?_
      unfold impl_GoodFits_1.f
      by_cases hx8 : (x.length : Int) > 8
      · rw [if_pos hx8]; simp [rowOk]; omega
      · rw [if_neg hx8, if_pos (by omega), fits_rd0]
        have : decide (x.length ≤ 8) = true := by simp; omega
        have hd : ((x.length : Int) != ((fits.getD 0 []).length : Int)) = !decide (x.length = (fits.getD 0 []).length) := by
          by_cases e : x.length = (fits.getD 0 []).length
          · rw [e]; simp
          · rw [decide_eq_false e]; simp only [bne, Bool.not_false, Bool.not_eq_true']; exact beq_eq_false_iff_ne.mpr (by omega)
        rw [hd]; unfold rowOk nbOf; rw [this, Bool.and_true]) (fun k i => sl1_IndexFunc.l0 k fits (fits.length : Int) i fits) (fun k i => rfl) (by omega)
    refine Ev.to (Ev.bind (Ev.bind hev (Ev.now _)) (Ev.now _)) ?_
    rw [hj, any_not_all]; unfold fitOk
    rw [decide_eq_true (show fits.length ≤ 8 by omega)]; simp
  · refine Ev.to (Ev.neg h8 (Ev.now _)) ?_
    unfold fitOk; rw [decide_eq_false (by omega)]; rfl

theorem spec_GoodFits_ev (fits : List (List Bool)) (h : fits.length ≤ 1048576) : Ev (fun k => spec_GoodFits.f k fits) (fitOk fits) := by
  unfold spec_GoodFits.f
  have gen : ∀ (d i : Nat), i + d = fits.length → Ev (fun k => spec_GoodFits.l0 k fits fits (fits.length : Int) (i : Int)) ((fits.drop i).all (rowOk fits) && decide (fits.length ≤ 8)) := by
    intro d
    induction d with
    | zero =>
      intro i hi
      rw [List.drop_of_length_le (by omega)]
      refine Ev.succ ?_
      simp only [spec_GoodFits.l0]
      refine Ev.neg (by omega) (Ev.to (Ev.now _) ?_)
      simp; omega
    | succ d ih =>
      intro i hi
      have hi' : i < fits.length := by omega
      rw [List.drop_eq_getElem_cons hi', List.all_cons]
      refine Ev.succ ?_
      simp only [spec_GoodFits.l0]
      refine Ev.pos (by omega) (Ev.pos (by omega) (Ev.pos (by omega) (Ev.pos (by omega) ?_)))
      rw [fits_rd, fits_rd0, fits_get fits i hi', w64n hi' (by omega)]
      refine Ev.ite (fun h1 => Ev.ite (fun h2 => ?_) (fun h2 => ?_)) (fun h1 => ?_)
      · have : rowOk fits fits[i] = false := by unfold rowOk nbOf; rw [decide_eq_false (show ¬ fits[i].length ≤ 8 by omega)]; simp
        rw [this]; exact Ev.now _
      · have : rowOk fits fits[i] = true := by unfold rowOk nbOf; rw [decide_eq_true (show fits[i].length ≤ 8 by omega), decide_eq_true (by omega)]; rfl
        rw [this, Bool.true_and]; exact ih (i + 1) (by omega)
      · have : rowOk fits fits[i] = false := by unfold rowOk nbOf; rw [decide_eq_false (by omega)]; rfl
        rw [this]; exact Ev.now _
  refine Ev.to (gen fits.length 0 (by omega)) ?_
  unfold fitOk; rw [List.drop_zero, Bool.and_comm]

theorem spec_take_ev {fits : List (List Bool)} {nb l b : Nat} {o o' : List Int} {t t' : List Bool} {r : Bool} (hw : ∀ i, i < fits.length → (fits.getD i []).length = nb) (hb8 : nb ≤ 8) (h : Tk (fitF fits) nb l b o t r o' t') :
    b ≤ nb → o.length = nb → t.length = nb → l < fits.length → (∀ x : Nat, x < nb → -1 ≤ rd o (x : Int) ∧ rd o (x : Int) < fits.length) → Ev (fun k => spec_l8Take.l0 k fits (l : Int) o t (fits.getD l []) (nb : Int) (b : Int)) (r, o', t') := by
  have enter : ∀ {m : Nat} {o t r}, m < fits.length → Ev (fun k => spec_l8Take.l0 k fits (m : Int) o t (fits.getD m []) (nb : Int) ((0 : Nat) : Int)) r → Ev (fun k => spec_l8Take.f k fits (m : Int) o t) r := fun {m o t r} hm hE => by
    refine Ev.succ ?_
    simp only [spec_l8Take.f]
    refine Ev.pos (by omega) (Ev.pos (by omega) ?_)
    rw [fits_rd, hw m hm]; exact hE
  induction h with
  | done hb => intro _ _ _ _ _; refine Ev.succ ?_; simp only [spec_l8Take.l0]; exact Ev.neg (by omega) (Ev.now _)
  | @skip l b o o' t t' r hb hc hs ih =>
    intro _ ho ht hl hr
    have hi := ih (by omega) ho ht hl hr
    refine Ev.succ ?_
    simp only [spec_l8Take.l0]
    rw [w64n hb (by omega)]
    refine Ev.pos (by omega) (Ev.pos (by omega) (Ev.pos (by rw [hw l hl]; omega) (Ev.ite (fun hf => Ev.pos (by omega) (Ev.pos ?_ hi)) (fun _ => hi))))
    rcases hc with hc | hc
    · rw [show rdOf false (fits.getD l []) (b : Int) = fitF fits l b from rfl, hc] at hf; cases hf
    · exact hc
  | @free l b o t hb hf h0 hn =>
    intro _ ho ht hl hr
    refine Ev.succ ?_
    simp only [spec_l8Take.l0]
    refine Ev.pos (by omega) (Ev.pos (by omega) (Ev.pos (by rw [hw l hl]; omega) (Ev.pos hf (Ev.pos (by omega) (Ev.neg (by rw [h0]; simp) (Ev.bind0 rfl (Ev.pos (by omega) (Ev.pos hn (Ev.to (Ev.now _) ?_)))))))))
    rw [toNat_nat]
  | @push l b m o o' t t' hb hf h0 hm hs ih =>
    intro _ ho ht hl hr
    have hml : m < fits.length := by have := (hr b hb).2; omega
    have hi := enter hml (ih (Nat.zero_le _) ho (by simpa using ht) hml hr)
    refine Ev.succ ?_
    simp only [spec_l8Take.l0]
    refine Ev.pos (by omega) (Ev.pos (by omega) (Ev.pos (by rw [hw l hl]; omega) (Ev.pos hf (Ev.pos (by omega) (Ev.neg (by rw [h0]; simp) (Ev.bind0 rfl (Ev.pos (by omega) (Ev.neg (by omega) ?_))))))))
    rw [toNat_nat, hm]
    exact Ev.bind hi (Ev.pos rfl (Ev.now _))
  | @fail l b m o o' o'' t t' t'' r hb hf h0 hm hs hq ih1 ih2 =>
    intro _ ho ht hl hr
    have hml : m < fits.length := by have := (hr b hb).2; omega
    have ln := hs.len
    simp only [List.length_set] at ln
    have hi := enter hml (ih1 (Nat.zero_le _) ho (by simpa using ht) hml hr)
    have hj := ih2 (by omega) (by omega) (by omega) hl (hs.rng ho hml hr)
    refine Ev.succ ?_
    simp only [spec_l8Take.l0]
    refine Ev.pos (by omega) (Ev.pos (by omega) (Ev.pos (by rw [hw l hl]; omega) (Ev.pos hf (Ev.pos (by omega) (Ev.neg (by rw [h0]; simp) (Ev.bind0 rfl (Ev.pos (by omega) (Ev.neg (by omega) ?_))))))))
    rw [toNat_nat, hm, w64n hb (by omega)]
    exact Ev.bind hi (Ev.neg (by simp) hj)

theorem impl_take_ev {fits : List (List Bool)} {nb l b : Nat} {o o' : List Int} {t t' : List Bool} {r : Bool} (hw : ∀ i, i < fits.length → (fits.getD i []).length = nb) (hb8 : nb ≤ 8) (h : Tk (fitF fits) nb l b o t r o' t') :
    b ≤ nb → o.length = nb → t.length = nb → l < fits.length → (∀ x : Nat, x < nb → -1 ≤ rd o (x : Int) ∧ rd o (x : Int) < fits.length) → Ev (fun k => impl_matcher_take_own.l0 k (l : Int) t (fits.getD l []) (nb : Int) (b : Int) fits o) (r, o', t') := by
  have enter : ∀ {m : Nat} {o t r}, m < fits.length → Ev (fun k => impl_matcher_take_own.l0 k (m : Int) t (fits.getD m []) (nb : Int) ((0 : Nat) : Int) fits o) r → Ev (fun k => impl_matcher_take_own.f k fits o (m : Int) t) r := fun {m o t r} hm hE => by
    refine Ev.succ ?_
    simp only [impl_matcher_take_own.f]
    refine Ev.pos (by omega) (Ev.pos (by omega) ?_)
    rw [fits_rd, hw m hm]; exact hE
  induction h with
  | done hb => intro _ _ _ _ _; refine Ev.succ ?_; simp only [impl_matcher_take_own.l0]; exact Ev.neg (by omega) (Ev.now _)
  | @skip l b o o' t t' r hb hc hs ih =>
    intro _ ho ht hl hr
    have hi := ih (by omega) ho ht hl hr
    refine Ev.succ ?_
    simp only [impl_matcher_take_own.l0]
    rw [w64n hb (by omega)]
    refine Ev.pos (by omega) (Ev.pos (by omega) (Ev.pos (by rw [hw l hl]; omega) (Ev.ite (fun hf => Ev.pos (by omega) (Ev.pos ?_ hi)) (fun _ => hi))))
    rcases hc with hc | hc
    · rw [show rdOf false (fits.getD l []) (b : Int) = fitF fits l b from rfl, hc] at hf; cases hf
    · exact hc
  | @free l b o t hb hf h0 hn =>
    intro _ ho ht hl hr
    refine Ev.succ ?_
    simp only [impl_matcher_take_own.l0]
    refine Ev.pos (by omega) (Ev.pos (by omega) (Ev.pos (by rw [hw l hl]; omega) (Ev.pos hf (Ev.pos (by omega) (Ev.neg (by rw [h0]; simp) (Ev.bind0 rfl (Ev.pos (by omega) (Ev.pos hn (Ev.to (Ev.now _) ?_)))))))))
    rw [toNat_nat]
  | @push l b m o o' t t' hb hf h0 hm hs ih =>
    intro _ ho ht hl hr
    have hml : m < fits.length := by have := (hr b hb).2; omega
    have hi := enter hml (ih (Nat.zero_le _) ho (by simpa using ht) hml hr)
    refine Ev.succ ?_
    simp only [impl_matcher_take_own.l0]
    refine Ev.pos (by omega) (Ev.pos (by omega) (Ev.pos (by rw [hw l hl]; omega) (Ev.pos hf (Ev.pos (by omega) (Ev.neg (by rw [h0]; simp) (Ev.bind0 rfl (Ev.pos (by omega) (Ev.neg (by omega) ?_))))))))
    rw [toNat_nat, hm]
    exact Ev.bind hi (Ev.pos rfl (Ev.now _))
  | @fail l b m o o' o'' t t' t'' r hb hf h0 hm hs hq ih1 ih2 =>
    intro _ ho ht hl hr
    have hml : m < fits.length := by have := (hr b hb).2; omega
    have ln := hs.len
    simp only [List.length_set] at ln
    have hi := enter hml (ih1 (Nat.zero_le _) ho (by simpa using ht) hml hr)
    have hj := ih2 (by omega) (by omega) (by omega) hl (hs.rng ho hml hr)
    refine Ev.succ ?_
    simp only [impl_matcher_take_own.l0]
    refine Ev.pos (by omega) (Ev.pos (by omega) (Ev.pos (by rw [hw l hl]; omega) (Ev.pos hf (Ev.pos (by omega) (Ev.neg (by rw [h0]; simp) (Ev.bind0 rfl (Ev.pos (by omega) (Ev.neg (by omega) ?_))))))))
    rw [toNat_nat, hm, w64n hb (by omega)]
    exact Ev.bind hi (Ev.neg (by simp) hj)

def matchAt (o : List Int) (n : Nat) : Nat → List Int
  | 0 => List.replicate n (-1)
  | i + 1 => if rd o (i : Int) ≥ 0 then (matchAt o n i).set (rd o (i : Int)).toNat (i : Int) else matchAt o n i
theorem matchAt_len (o : List Int) (n i : Nat) : (matchAt o n i).length = n := by
  induction i with
  | zero => simp [matchAt]
  | succ i ih => simp only [matchAt]; split <;> simp [ih]
theorem matchAt_none {o : List Int} {n l : Nat} (hl : l < n) : ∀ i, (∀ b : Nat, b < i → rd o (b : Int) ≠ (l : Int)) → rd (matchAt o n i) (l : Int) = -1 := by
  intro i
  induction i with
  | zero => intro _; simp only [matchAt]; exact rd_rep n l (-1) hl
  | succ i ih =>
    intro h
    have h1 := ih fun b hb => h b (by omega)
    have h2 := h i (by omega)
    simp only [matchAt]
    by_cases hp : rd o (i : Int) ≥ 0
    · rw [if_pos hp]
      obtain ⟨m, hm⟩ := exists_nat_of_nonneg hp
      rw [hm, toNat_nat]
      by_cases hmn : m < n
      · rw [rd_setn _ _ _ _ (by rw [matchAt_len]; exact hmn), if_neg (by omega)]; exact h1
      · rw [List.set_eq_of_length_le (by rw [matchAt_len]; omega)]; exact h1
    · rw [if_neg hp]; exact h1
theorem matchAt_some {o : List Int} {n l b : Nat} (hl : l < n) (nb : Nat) (hinj : ∀ (x y m : Nat), x < nb → y < nb → rd o (x : Int) = (m : Int) → rd o (y : Int) = (m : Int) → x = y) :
    ∀ i, i ≤ nb → b < i → rd o (b : Int) = (l : Int) → rd (matchAt o n i) (l : Int) = (b : Int) := by
  intro i
  induction i with
  | zero => intro _ h; omega
  | succ i ih =>
    intro hi hb he
    simp only [matchAt]
    by_cases hp : rd o (i : Int) ≥ 0
    · rw [if_pos hp]
      obtain ⟨m, hm⟩ := exists_nat_of_nonneg hp
      rw [hm, toNat_nat]
      by_cases hml : m = l
      · subst hml
        have : i = b := hinj i b m (by omega) (by omega) hm he
        subst this
        rw [rd_setn _ _ _ _ (by rw [matchAt_len]; exact hl), if_pos rfl]
      · have hbi : b < i := by
          rcases Nat.lt_or_ge b i with h | h
          · exact h
          · obtain rfl : b = i := by omega
            omega
        by_cases hmn : m < n
        · rw [rd_setn _ _ _ _ (by rw [matchAt_len]; exact hmn), if_neg (by omega)]; exact ih (by omega) hbi he
        · rw [List.set_eq_of_length_le (by rw [matchAt_len]; omega)]; exact ih (by omega) hbi he
    · rw [if_neg hp]
      refine ih (by omega) ?_ he
      rcases Nat.lt_or_ge b i with h | h
      · exact h
      · obtain rfl : b = i := by omega
        omega

theorem impl_matching_ev (o : List Int) (n nb : Nat) (hn : n ≤ 8) (hb : nb ≤ 8) (ho : o.length = nb) (hr : ∀ x : Nat, x < nb → -1 ≤ rd o (x : Int) ∧ rd o (x : Int) < n) : Ev (fun k => impl_matching.f k (n : Int) o) (matchAt o n nb) := by
  unfold impl_matching.f
  refine Ev.bind0 (rep_one (-1) n (by omega)) ?_
  rw [ho]
  refine ev_up nb (fun k i => impl_matching.l0 k (matchAt o n i) o (nb : Int) (i : Int)) _ (fun _ => True) trivial ?_ ?_
  · intro _; refine Ev.succ ?_; simp only [impl_matching.l0]; exact Ev.neg (by omega) (Ev.now _)
  · intro i hi _ hnx
    have hnx := hnx trivial
    have := hr i hi
    refine Ev.succ ?_
    simp only [impl_matching.l0]
    rw [w64n hi (by omega)]
    simp only [matchAt] at hnx
    refine Ev.pos (by omega) (Ev.pos (by omega) (Ev.pos (by omega) (Ev.ite (fun hp => ?_) (fun hp => ?_))))
    · rw [if_pos hp] at hnx
      exact Ev.pos hp (Ev.pos (by rw [matchAt_len]; omega) hnx)
    · rw [if_neg hp] at hnx; exact hnx

theorem impl_binsOf_eq (fits : List (List Bool)) : impl_binsOf.f fits = some (nbOf fits : Int) := by
  unfold impl_binsOf.f
  by_cases h : (fits.length : Int) = 0
  · rw [if_pos h]
    have : fits = [] := List.length_eq_zero_iff.mp (by omega)
    subst this; rfl
  · rw [if_neg h, if_pos (by omega), fits_rd0]; rfl
theorem impl_matched_ev (fits : List (List Bool)) (hg : fitOk fits = true) {o : List Int} (hK : Ks (fitF fits) (nbOf fits) fits.length 0 (List.replicate (nbOf fits) (-1)) o) : Ev (fun k => impl_matched.f k fits) o := by
  obtain ⟨h8, hb8, hw⟩ := (fitOk_iff fits).mp hg
  unfold impl_matched.f
  refine Ev.bind0 (impl_binsOf_eq fits) (Ev.bind0 (rep_one (-1) (nbOf fits) (by omega)) ?_)
  have gen : ∀ {j : Nat} {o o' : List Int}, Ks (fitF fits) (nbOf fits) fits.length j o o' → o.length = nbOf fits → (∀ x : Nat, x < nbOf fits → -1 ≤ rd o (x : Int) ∧ rd o (x : Int) < fits.length) → Ev (fun k => impl_matched.l0 k (fits.length : Int) (j : Int) fits o) o' := by
    intro j o o' h
    induction h with
    | done hj => intro _ _; refine Ev.succ ?_; simp only [impl_matched.l0]; exact Ev.neg (by omega) (Ev.now _)
    | @step j o o' o'' t' r hj ht hk ih =>
      intro ho hr
      have ln := ht.len
      have e := impl_take_ev hw hb8 ht (Nat.zero_le _) ho (by simp) hj hr
      refine Ev.succ ?_
      simp only [impl_matched.l0]
      rw [w64n hj (by omega), toNat_nat, ho]
      refine Ev.pos (by omega) (Ev.pos (by omega) (Ev.pos (by omega) (Ev.bind (a := (r, o', t')) ?_ (ih (by omega) (ht.rng ho hj hr)))))
      refine Ev.succ ?_
      simp only [impl_matcher_take_own.f]
      refine Ev.pos (by omega) (Ev.pos (by omega) ?_)
      rw [fits_rd, hw j hj]; exact e
  exact gen hK (by simp) (fun x hx => by rw [rd_rep _ _ _ hx]; omega)

theorem spec_l8Bins_eq (fits : List (List Bool)) : spec_l8Bins.f fits = some (nbOf fits : Int) := by
  unfold spec_l8Bins.f
  by_cases h : (fits.length : Int) = 0
  · rw [if_pos h]
    have : fits = [] := List.length_eq_zero_iff.mp (by omega)
    subst this; rfl
  · rw [if_neg h, if_pos (by omega), fits_rd0]; rfl
theorem spec_l8Match_ev (fits : List (List Bool)) (hg : fitOk fits = true) {o : List Int} (hK : Ks (fitF fits) (nbOf fits) fits.length 0 (List.replicate (nbOf fits) (-1)) o) : Ev (fun k => spec_l8Match.f k fits) (matchAt o fits.length (nbOf fits)) := by
  obtain ⟨h8, hb8, hw⟩ := (fitOk_iff fits).mp hg
  unfold spec_l8Match.f
  refine Ev.bind0 (spec_l8Bins_eq fits) ?_
  -- the tail
  have tail : ∀ (o : List Int), o.length = nbOf fits → (∀ x : Nat, x < nbOf fits → -1 ≤ rd o (x : Int) ∧ rd o (x : Int) < fits.length) → Ev (fun k => spec_l8Match.l2 k o (List.replicate fits.length 0) (fits.length : Int) ((0 : Nat) : Int)) (matchAt o fits.length (nbOf fits)) := by
    intro o ho hr
    have fill := ev_up fits.length (fun k i => spec_l8Match.l2 k o (List.replicate i (-1) ++ List.replicate (fits.length - i) 0) (fits.length : Int) (i : Int)) (matchAt o fits.length (nbOf fits)) (fun _ => True) trivial ?_ ?_
    · simpa using fill
    · intro _
      refine Ev.succ ?_
      simp only [spec_l8Match.l2]
      refine Ev.neg (by omega) ?_
      rw [Nat.sub_self, List.replicate_zero, List.append_nil, ho]
      refine ev_up (nbOf fits) (fun k i => spec_l8Match.l3 k (matchAt o fits.length i) o (nbOf fits : Int) (i : Int)) _ (fun _ => True) trivial ?_ ?_
      · intro _; refine Ev.succ ?_; simp only [spec_l8Match.l3]; exact Ev.neg (by omega) (Ev.now _)
      · intro i hi _ hnx
        have hnx := hnx trivial
        have := hr i hi
        refine Ev.succ ?_
        simp only [spec_l8Match.l3]
        rw [w64n hi (by omega)]
        simp only [matchAt] at hnx
        refine Ev.pos (by omega) (Ev.pos (by omega) (Ev.pos (by omega) (Ev.ite (fun hp => ?_) (fun hp => ?_))))
        · rw [if_pos hp] at hnx
          exact Ev.pos hp (Ev.pos (by rw [matchAt_len]; omega) hnx)
        · rw [if_neg hp] at hnx; exact hnx
    · intro i hi _ hnx
      have hnx := hnx trivial
      refine Ev.succ ?_
      simp only [spec_l8Match.l2]
      rw [w64n hi (by omega), toNat_nat]
      refine Ev.pos (by omega) (Ev.pos (by omega) (Ev.pos (by simp; omega) ?_))
      have e : (List.replicate i (-1 : Int) ++ List.replicate (fits.length - i) 0).set i (-1) = List.replicate (i + 1) (-1) ++ List.replicate (fits.length - (i + 1)) 0 := by
        rw [List.set_append_right _ _ (by simp), List.length_replicate, Nat.sub_self, show fits.length - i = (fits.length - (i + 1)) + 1 by omega, List.replicate_succ, List.set_cons_zero, List.replicate_succ', List.append_assoc]; rfl
      rw [e]; exact hnx
  have loads : ∀ {j : Nat} {o o' : List Int}, Ks (fitF fits) (nbOf fits) fits.length j o o' → o.length = nbOf fits → (∀ x : Nat, x < nbOf fits → -1 ≤ rd o (x : Int) ∧ rd o (x : Int) < fits.length) → Ev (fun k => spec_l8Match.l1 k fits o (fits.length : Int) (j : Int)) (matchAt o' fits.length (nbOf fits)) := by
    intro j o o' h
    induction h with
    | @done j o hj =>
      intro ho hr
      refine Ev.succ ?_
      simp only [spec_l8Match.l1]
      refine Ev.neg (by omega) (Ev.pos (by omega) (Ev.pos (by omega) (Ev.bind0 rfl ?_)))
      rw [toNat_nat, List.length_replicate]
      exact tail o ho hr
    | @step j o o' o'' t' r hj ht hk ih =>
      intro ho hr
      have ln := ht.len
      have e := spec_take_ev hw hb8 ht (Nat.zero_le _) ho (by simp) hj hr
      refine Ev.succ ?_
      simp only [spec_l8Match.l1]
      rw [w64n hj (by omega), toNat_nat, ho]
      refine Ev.pos (by omega) (Ev.pos (by omega) (Ev.pos (by omega) (Ev.bind (a := (r, o', t')) ?_ (ih (by omega) (ht.rng ho hj hr)))))
      refine Ev.succ ?_
      simp only [spec_l8Take.f]
      refine Ev.pos (by omega) (Ev.pos (by omega) ?_)
      rw [fits_rd, hw j hj]; exact e
  have bins : ∀ (d i : Nat), i + d = nbOf fits → Ev (fun k => spec_l8Match.l0 k fits (List.replicate i (-1)) (d : Int)) (matchAt o fits.length (nbOf fits)) := by
    intro d
    induction d with
    | zero =>
      intro i hi
      obtain rfl : i = nbOf fits := by omega
      refine Ev.succ ?_
      simp only [spec_l8Match.l0]
      refine Ev.neg (by omega) ?_
      exact loads hK (by simp) (fun x hx => by rw [rd_rep _ _ _ hx]; omega)
    | succ d ih =>
      intro i hi
      refine Ev.succ ?_
      simp only [spec_l8Match.l0]
      rw [w64 (by omega) (by omega), show ((d + 1 : Nat) : Int) - 1 = (d : Int) by omega]
      refine Ev.pos (by omega) (Ev.pos (by simp; omega) ?_)
      have := ih (i + 1) (by omega)
      rwa [List.replicate_succ'] at this
  exact bins (nbOf fits) 0 (by omega)

def matchF (fits : List (List Bool)) (o : List Int) : List Int × Bool := if fitOk fits = true then (matchAt o fits.length (nbOf fits), true) else ([], false)

theorem laws_toBoolS_ev (l : List Bool) (hl : l.length ≤ 1048576) : Ev (fun k => laws_toBoolS.f k l) l := by
  unfold laws_toBoolS.f
  refine Ev.pos (by omega) (Ev.pos (by rw [toNat_nat]; omega) ?_)
  rw [toNat_nat]
  have key := ev_up l.length (fun k i => laws_toBoolS.l0 k l (l.take i ++ List.replicate (l.length - i) false) (i : Int)) l (fun _ => True) trivial ?_ ?_
  · simpa using key
  · intro _
    refine Ev.succ ?_
    simp only [laws_toBoolS.l0]
    refine Ev.neg (by omega) (Ev.to (Ev.now _) (by simp))
  · intro i hi _ hn
    have hn := hn trivial
    have hlen : (l.take i ++ List.replicate (l.length - i) false).length = l.length := by simp; omega
    refine Ev.succ ?_
    simp only [laws_toBoolS.l0]
    rw [rdOf_nat _ _ i hi, toNat_nat, w64n hi (by omega)]
    refine Ev.pos (by omega) (Ev.pos (by omega) (Ev.pos (by rw [hlen]; omega) ?_))
    have e : (l.take i ++ List.replicate (l.length - i) false).set i l[i] = l.take (i + 1) ++ List.replicate (l.length - (i + 1)) false := by
      rw [List.set_append_right _ _ (by simp; omega), List.take_succ_eq_append_getElem hi, List.append_assoc]
      congr 1
      rw [List.length_take, show i - min i l.length = 0 by omega, show l.length - i = (l.length - (i + 1)) + 1 by omega, List.replicate_succ]
      rfl
    rw [e]; exact hn
theorem laws_toBoolSS_ev (l : List (List Bool)) (hl : l.length ≤ 1048576) (hr : ∀ r ∈ l, r.length ≤ 1048576) : Ev (fun k => laws_toBoolSS.f k l) l := by
  unfold laws_toBoolSS.f
  refine Ev.pos (by omega) (Ev.pos (by rw [toNat_nat]; omega) ?_)
  rw [toNat_nat]
  have key := ev_up l.length (fun k i => laws_toBoolSS.l0 k l (l.take i ++ List.replicate (l.length - i) []) (i : Int)) l (fun _ => True) trivial ?_ ?_
  · simpa using key
  · intro _
    refine Ev.succ ?_
    simp only [laws_toBoolSS.l0]
    refine Ev.neg (by omega) (Ev.to (Ev.now _) (by simp))
  · intro i hi _ hn
    have hn := hn trivial
    have hlen : (l.take i ++ List.replicate (l.length - i) ([] : List Bool)).length = l.length := by simp; omega
    refine Ev.succ ?_
    simp only [laws_toBoolSS.l0]
    rw [fits_rd, fits_get l i hi, toNat_nat, w64n hi (by omega)]
    refine Ev.pos (by omega) (Ev.pos (by omega) (Ev.bind (laws_toBoolS_ev l[i] (hr _ (List.getElem_mem hi))) (Ev.pos (by rw [hlen]; omega) ?_)))
    have e : (l.take i ++ List.replicate (l.length - i) ([] : List Bool)).set i l[i] = l.take (i + 1) ++ List.replicate (l.length - (i + 1)) [] := by
      rw [List.set_append_right _ _ (by simp; omega), List.take_succ_eq_append_getElem hi, List.append_assoc]
      congr 1
      rw [List.length_take, show i - min i l.length = 0 by omega, show l.length - i = (l.length - (i + 1)) + 1 by omega, List.replicate_succ]
      rfl
    rw [e]; exact hn

theorem laws_eqBoolS_ev (l : List Bool) (hl : l.length ≤ 1048576) : Ev (fun k => laws_eqBoolS.f k l l) true := by
  unfold laws_eqBoolS.f
  refine Ev.pos rfl ?_
  refine ev_up l.length (fun k i => laws_eqBoolS.l0 k l l (i : Int)) _ (fun _ => True) trivial ?_ ?_
  · intro _; refine Ev.succ ?_; simp only [laws_eqBoolS.l0]; exact Ev.neg (by omega) (Ev.now _)
  · intro i hi _ hn
    refine Ev.succ ?_
    simp only [laws_eqBoolS.l0]
    rw [w64n hi (by omega)]
    exact Ev.pos (by omega) (Ev.pos (by omega) (Ev.pos (by omega) (Ev.neg (by simp) (hn trivial))))
theorem laws_eqBoolSS_ev (l : List (List Bool)) (hl : l.length ≤ 1048576) (hr : ∀ r ∈ l, r.length ≤ 1048576) : Ev (fun k => laws_eqBoolSS.f k l l) true := by
  unfold laws_eqBoolSS.f
  refine Ev.pos rfl ?_
  refine ev_up l.length (fun k i => laws_eqBoolSS.l0 k l l (i : Int)) _ (fun _ => True) trivial ?_ ?_
  · intro _; refine Ev.succ ?_; simp only [laws_eqBoolSS.l0]; exact Ev.neg (by omega) (Ev.now _)
  · intro i hi _ hn
    refine Ev.succ ?_
    simp only [laws_eqBoolSS.l0]
    rw [fits_rd, fits_get l i hi, w64n hi (by omega)]
    exact Ev.pos (by omega) (Ev.pos (by omega) (Ev.pos (by omega) (Ev.bind (laws_eqBoolS_ev _ (hr _ (List.getElem_mem hi))) (Ev.pos rfl (hn trivial)))))

theorem laws_szBoolSS_ev (l : List (List Bool)) (hl : l.length ≤ 9223372036854775807) (hr : ∀ r ∈ l, r.length ≤ 9223372036854775807) : ∃ r : Int, Ev (fun k => laws_szBoolSS.f k l 1048576) r ∧ (0 ≤ r → l.length ≤ 1048576 ∧ ∀ x ∈ l, x.length ≤ 1048576) := by
  unfold laws_szBoolSS.f
  by_cases h : (l.length : Int) > 1048576
  · refine ⟨-1, Ev.pos (by rw [w64 (by omega) (by omega)]; omega) (Ev.now _), fun h => by omega⟩
  · rw [w64 (x := 1048576 - (l.length : Int)) (by omega) (by omega)]
    have gen : ∀ (d i : Nat) (s : Int), i + d = l.length → 0 ≤ s ∧ s ≤ 1048576 → ∃ r : Int, Ev (fun k => laws_szBoolSS.l0 k l s (i : Int)) r ∧ (0 ≤ r → ∀ x ∈ l.drop i, x.length ≤ 1048576) := by
      intro d
      induction d with
      | zero =>
        intro i s hi hs
        refine ⟨s, ?_, fun _ x hx => by rw [List.drop_of_length_le (by omega)] at hx; cases hx⟩
        refine Ev.succ ?_; simp only [laws_szBoolSS.l0]; exact Ev.neg (by omega) (Ev.now _)
      | succ d ih =>
        intro i s hi hs
        have hi' : i < l.length := by omega
        have hx := hr _ (List.getElem_mem hi')
        by_cases hp : s - (l[i].length : Int) < 0
        · refine ⟨-1, ?_, fun h => by omega⟩
          refine Ev.succ ?_
          simp only [laws_szBoolSS.l0]
          rw [fits_rd, fits_get l i hi']
          refine Ev.pos (by omega) (Ev.pos (by omega) (Ev.bind0 (a := -1) ?_ (Ev.pos (by omega) (Ev.now _))))
          unfold laws_szBoolS.f; rw [w64 (by omega) (by omega), if_pos hp]
        · obtain ⟨r, h1, h2⟩ := ih (i + 1) (s - l[i].length) (by omega) (by omega)
          refine ⟨r, ?_, fun h x hx => ?_⟩
          · refine Ev.succ ?_
            simp only [laws_szBoolSS.l0]
            rw [fits_rd, fits_get l i hi', w64n hi' (by omega)]
            refine Ev.pos (by omega) (Ev.pos (by omega) (Ev.bind0 (a := s - (l[i].length : Int)) ?_ (Ev.neg (by omega) h1)))
            unfold laws_szBoolS.f; rw [w64 (by omega) (by omega), if_neg hp]
          · rw [List.drop_eq_getElem_cons hi', List.mem_cons] at hx
            rcases hx with rfl | hx
            · omega
            · exact h2 h x hx
    obtain ⟨r, h1, h2⟩ := gen l.length 0 (1048576 - l.length) (by omega) (by omega)
    exact ⟨r, Ev.neg (by omega) h1, fun h => ⟨by omega, by simpa using h2 h⟩⟩

theorem laws_markBoolS_ev (l : List Bool) (k0 : Int) (h0 : 0 ≤ k0 ∧ k0 ≤ 4611686018427387904) (hl : l.length ≤ 1048576) : ∃ y, Ev (fun k => laws_markBoolS.f k l k0) (k0 + (l.length : Int), y) := by
  unfold laws_markBoolS.f
  have gen : ∀ (d i : Nat) (x : List Bool), i + d = l.length → x.length = l.length → ∃ y, Ev (fun k => laws_markBoolS.l0 k x (k0 + (i : Int)) (i : Int)) (k0 + (l.length : Int), y) := by
    intro d
    induction d with
    | zero =>
      intro i x hi hx
      refine ⟨x, ?_⟩
      refine Ev.succ ?_; simp only [laws_markBoolS.l0]; refine Ev.neg (by omega) (Ev.to (Ev.now _) ?_)
      rw [show i = l.length by omega]
    | succ d ih =>
      intro i x hi hx
      obtain ⟨y, hy⟩ := ih (i + 1) (x.set i ((Int.tmod (k0 + (i : Int)) 3) == 0)) (by omega) (by simp; exact hx)
      refine ⟨y, ?_⟩
      refine Ev.succ ?_
      simp only [laws_markBoolS.l0]
      rw [toNat_nat, w64n (n := l.length) (by omega) (by omega), w64 (by omega) (by omega), show k0 + (i : Int) + 1 = k0 + ((i + 1 : Nat) : Int) by omega]
      exact Ev.pos (by omega) (Ev.pos (by omega) hy)
  obtain ⟨y, hy⟩ := gen l.length 0 l (by omega) rfl
  exact ⟨y, by simpa using hy⟩
theorem laws_markBoolSS_ev (l : List (List Bool)) (hl : l.length ≤ 1048576) (hr : ∀ r ∈ l, r.length ≤ 1048576) : ∃ (q : Int) (y : List (List Bool)), 0 ≤ q ∧ Ev (fun k => laws_markBoolSS.f k l 1) (q, y) := by
  unfold laws_markBoolSS.f
  have gen : ∀ (d i : Nat) (x : List (List Bool)) (s : Int), i + d = l.length → x.length = l.length → (∀ r ∈ x, r.length ≤ 1048576) → 0 ≤ s ∧ s ≤ 1 + 1048576 * (i : Int) → ∃ (q : Int) (y : List (List Bool)), 0 ≤ q ∧ Ev (fun k => laws_markBoolSS.l0 k x s (i : Int)) (q, y) := by
    intro d
    induction d with
    | zero =>
      intro i x s hi hx hxr hs
      refine ⟨s, x, hs.1, ?_⟩
      refine Ev.succ ?_; simp only [laws_markBoolSS.l0]; exact Ev.neg (by omega) (Ev.now _)
    | succ d ih =>
      intro i x s hi hx hxr hs
      have hi' : i < x.length := by omega
      have hxi := hxr _ (List.getElem_mem hi')
      obtain ⟨y1, hy1⟩ := laws_markBoolS_ev x[i] s (by omega) hxi
      have hy1l : y1.length ≤ 1048576 := by
        have gen2 : ∀ (d j : Nat) (z y : List Bool) (c : Int), j + d = z.length → 0 ≤ c → c + d ≤ 4611686018427387904 → z.length ≤ 1048576 → (∃ q, Ev (fun k => laws_markBoolS.l0 k z c (j : Int)) (q, y)) → y.length = z.length := by
          intro d
          induction d with
          | zero =>
            intro j z y c hj _ _ _ ⟨q, K, hq⟩
            have := hq (K + 1) (by omega)
            simp only [laws_markBoolS.l0] at this
            rw [if_neg (by omega)] at this
            simp only [Option.some.injEq, Prod.mk.injEq] at this
            rw [this.2]
          | succ d ih2 =>
            intro j z y c hj hc hc2 hz ⟨q, K, hq⟩
            have := ih2 (j + 1) (z.set j ((Int.tmod c 3) == 0)) y (c + 1) (by simp; omega) (by omega) (by omega) (by simpa using hz) ⟨q, K, fun k hk => by
              have h3 := hq (k + 1) (by omega)
              simp only [laws_markBoolS.l0] at h3
              rw [if_pos (by omega), if_pos (by omega), toNat_nat, w64n (n := z.length) (by omega) (by omega), w64 (by omega) (by omega)] at h3
              exact h3⟩
            simpa using this
        have := gen2 x[i].length 0 x[i] y1 s (by omega) hs.1 (by omega) hxi ⟨_, hy1⟩
        omega
      obtain ⟨q, y, hq, hy⟩ := ih (i + 1) (x.set i y1) (s + x[i].length) (by omega) (by simp; exact hx) (fun r hr => by
        rcases List.mem_or_eq_of_mem_set hr with h | h
        · exact hxr r h
        · rw [h]; exact hy1l) (by omega)
      refine ⟨q, y, hq, ?_⟩
      refine Ev.succ ?_
      simp only [laws_markBoolSS.l0]
      rw [fits_rd, fits_get x i hi', toNat_nat, w64n (n := l.length) (by omega) (by omega)]
      exact Ev.pos (by omega) (Ev.pos (by omega) (Ev.bind hy1 hy))
  obtain ⟨q, y, hq, hy⟩ := gen l.length 0 l 1 (by omega) rfl hr (by omega)
  exact ⟨q, y, hq, hy⟩

inductive RL (F : Nat → Nat → Bool) (nb n : Nat) (o : List Int) : Nat → Prop where
  | start {l : Nat} : l < n → (∀ x : Nat, x < nb → rd o (x : Int) ≠ (l : Int)) → RL F nb n o l
  | next {l y m : Nat} : RL F nb n o l → y < nb → F l y = true → rd o (y : Int) = (m : Int) → RL F nb n o m
def RB (F : Nat → Nat → Bool) (nb n : Nat) (o : List Int) (y : Nat) : Prop := y < nb ∧ ∃ l, RL F nb n o l ∧ F l y = true
theorem RL.lt {F : Nat → Nat → Bool} {nb n : Nat} {o : List Int} (hr : ∀ x : Nat, x < nb → -1 ≤ rd o (x : Int) ∧ rd o (x : Int) < n) {l : Nat} (h : RL F nb n o l) : l < n := by
  cases h with
  | start h _ => exact h
  | next _ hy _ hm => have := hr _ hy; omega
structure IsReach (F : Nat → Nat → Bool) (nb n : Nat) (o : List Int) (ls bs : List Bool) : Prop where
  ll : ls.length = n
  lb : bs.length = nb
  rl : ∀ l : Nat, l < n → (rdOf false ls (l : Int) = true ↔ RL F nb n o l)
  rb : ∀ y : Nat, y < nb → (rdOf false bs (y : Int) = true ↔ RB F nb n o y)
theorem bools_ext {a b : List Bool} (h : a.length = b.length) (he : ∀ i : Nat, i < a.length → (rdOf false a (i : Int) = true ↔ rdOf false b (i : Int) = true)) : a = b := by
  apply List.ext_getElem h
  intro i h1 h2
  have := he i h1
  rw [rdOf_nat _ _ i h1, rdOf_nat _ _ i h2] at this
  exact Bool.eq_iff_iff.mpr this
theorem IsReach.uniq {F : Nat → Nat → Bool} {nb n : Nat} {o : List Int} {ls bs ls' bs' : List Bool} (h : IsReach F nb n o ls bs) (h' : IsReach F nb n o ls' bs') : ls = ls' ∧ bs = bs' :=
  ⟨bools_ext (by rw [h.ll, h'.ll]) (fun i hi => by rw [h.ll] at hi; rw [h.rl i hi, h'.rl i hi]), bools_ext (by rw [h.lb, h'.lb]) (fun i hi => by rw [h.lb] at hi; rw [h.rb i hi, h'.rb i hi])⟩
structure Sound (F : Nat → Nat → Bool) (nb n : Nat) (o : List Int) (ls bs : List Bool) : Prop where
  ll : ls.length = n
  lb : bs.length = nb
  sl : ∀ l : Nat, l < n → rdOf false ls (l : Int) = true → RL F nb n o l
  sb : ∀ y : Nat, y < nb → rdOf false bs (y : Int) = true → RB F nb n o y
  st : ∀ l : Nat, l < n → (∀ x : Nat, x < nb → rd o (x : Int) ≠ (l : Int)) → rdOf false ls (l : Int) = true
theorem Sound.setl {F : Nat → Nat → Bool} {nb n : Nat} {o : List Int} {ls bs : List Bool} (h : Sound F nb n o ls bs) {l : Nat} (hl : l < n) (hr : RL F nb n o l) : Sound F nb n o (ls.set l true) bs := by
  refine ⟨by rw [List.length_set]; exact h.ll, h.lb, fun i hi h2 => ?_, h.sb, fun i hi h2 => ?_⟩
  · rw [rdOf_setn _ _ _ _ (by rw [h.ll]; exact hl)] at h2
    by_cases e : i = l
    · rw [e]; exact hr
    · rw [if_neg e] at h2; exact h.sl i hi h2
  · rw [rdOf_setn _ _ _ _ (by rw [h.ll]; exact hl)]; split
    · rfl
    · exact h.st i hi h2
theorem Sound.setb {F : Nat → Nat → Bool} {nb n : Nat} {o : List Int} {ls bs : List Bool} (h : Sound F nb n o ls bs) {y : Nat} (hy : y < nb) (hr : RB F nb n o y) : Sound F nb n o ls (bs.set y true) := by
  refine ⟨h.ll, by rw [List.length_set]; exact h.lb, h.sl, fun i hi h2 => ?_, h.st⟩
  rw [rdOf_setn _ _ _ _ (by rw [h.lb]; exact hy)] at h2
  by_cases e : i = y
  · rw [e]; exact hr
  · rw [if_neg e] at h2; exact h.sb i hi h2
theorem Sound.closed {F : Nat → Nat → Bool} {nb n : Nat} {o : List Int} {ls bs : List Bool} (hr : ∀ x : Nat, x < nb → -1 ≤ rd o (x : Int) ∧ rd o (x : Int) < n) (h : Sound F nb n o ls bs) (h1 : ∀ l : Nat, l < n → rdOf false ls (l : Int) = true → ∀ y : Nat, y < nb → F l y = true → rdOf false bs (y : Int) = true)
    (h2 : ∀ y : Nat, y < nb → rdOf false bs (y : Int) = true → ∀ m : Nat, rd o (y : Int) = (m : Int) → rdOf false ls (m : Int) = true) : IsReach F nb n o ls bs := by
  have all : ∀ l, RL F nb n o l → rdOf false ls (l : Int) = true := by
    intro l hl
    induction hl with
    | start hl hu => exact h.st _ hl hu
    | next hp hy hf hm ih => exact h2 _ hy (h1 _ (RL.lt hr hp) ih _ hy hf) _ hm
  exact ⟨h.ll, h.lb, fun l hl => ⟨h.sl l hl, all l⟩, fun y hy => ⟨h.sb y hy, fun ⟨_, l, hl, hf⟩ => h1 l (RL.lt hr hl) (all l hl) y hy hf⟩⟩
theorem cnt_set (bs : List Bool) {y nb : Nat} (hy : y < nb) (hl : bs.length = nb) (h0 : rdOf false bs (y : Int) = false) : cnt (fun i => !rdOf false bs (i : Int)) nb = cnt (fun i => !rdOf false (bs.set y true) (i : Int)) nb + 1 := by
  rw [cnt_out hy (by rw [h0]; rfl)]
  congr 1
  refine cnt_congr fun i hi => ?_
  rw [rdOf_setn _ _ _ _ (by omega)]; split <;> simp_all
theorem matchAt_iff {F : Nat → Nat → Bool} {nb n : Nat} {o : List Int} (hk : Kuhn F nb n o) {l b : Nat} (hl : l < n) (hb : b < nb) : rd (matchAt o n nb) (l : Int) = (b : Int) ↔ rd o (b : Int) = (l : Int) := by
  constructor
  · intro h
    by_cases hx : ∃ x : Nat, x < nb ∧ rd o (x : Int) = (l : Int)
    · obtain ⟨x, hx, he⟩ := hx
      have := matchAt_some hl nb hk.inj nb (Nat.le_refl _) hx he
      obtain rfl : x = b := by omega
      exact he
    · have := matchAt_none (o := o) hl nb fun x hx2 he => hx ⟨x, hx2, he⟩
      omega
  · intro h; exact matchAt_some hl nb hk.inj nb (Nat.le_refl _) hb h
theorem matchAt_neg {F : Nat → Nat → Bool} {nb n : Nat} {o : List Int} (hk : Kuhn F nb n o) {l : Nat} (hl : l < n) : rd (matchAt o n nb) (l : Int) < 0 ↔ ∀ x : Nat, x < nb → rd o (x : Int) ≠ (l : Int) := by
  constructor
  · intro h x hx he
    have := matchAt_some hl nb hk.inj nb (Nat.le_refl _) hx he
    omega
  · intro h
    have := matchAt_none (o := o) hl nb h
    omega

theorem impl_reached_ev (fits : List (List Bool)) (hg : fitOk fits = true) {o : List Int} (hK : Ks (fitF fits) (nbOf fits) fits.length 0 (List.replicate (nbOf fits) (-1)) o) (hk : Kuhn (fitF fits) (nbOf fits) fits.length o) :
    ∃ ls bs, Ev (fun k => impl_reached.f k fits) (ls, bs) ∧ IsReach (fitF fits) (nbOf fits) fits.length o ls bs := by
  obtain ⟨h8, hb8, hw⟩ := (fitOk_iff fits).mp hg
  generalize hnb : nbOf fits = nb at *
  generalize hn : fits.length = n at *
  -- the queue
  have main : ∀ (u : Nat) (ls bs : List Bool) (q : List Int), Sound (fitF fits) nb n o ls bs → 2 * cnt (fun i => !rdOf false bs (i : Int)) nb + q.length = u → q.length ≤ 1000 + 2 * nb →
      (∀ z ∈ q, ∃ l : Nat, z = (l : Int) ∧ l < n ∧ rdOf false ls (l : Int) = true) →
      (∀ l : Nat, l < n → rdOf false ls (l : Int) = true → (l : Int) ∈ q ∨ ∀ y : Nat, y < nb → fitF fits l y = true → rdOf false bs (y : Int) = true) →
      (∀ y : Nat, y < nb → rdOf false bs (y : Int) = true → ∀ m : Nat, rd o (y : Int) = (m : Int) → rdOf false ls (m : Int) = true) → 
      q.length + 2 * cnt (fun i => !rdOf false bs (i : Int)) nb ≤ 100 →
      ∃ ls' bs', Ev (fun k => impl_reached.l1 k fits o ls bs q) (ls', bs') ∧ IsReach (fitF fits) nb n o ls' bs' := by
    intro u
    induction u using Nat.strongRecOn with
    | _ u ih =>
      intro ls bs q hS hu _ hq hc1 hc2 hsm
      cases q with
      | nil =>
        refine ⟨ls, bs, ?_, hS.closed hk.rng (fun l hl h => ?_) hc2⟩
        · refine Ev.succ ?_; simp only [impl_reached.l1]; exact Ev.neg (by simp) (Ev.now _)
        · rcases hc1 l hl h with h | h
          · cases h
          · exact h
      | cons z0 q0 =>
        obtain ⟨h, rfl, hhn, hhl⟩ := hq z0 (by simp)
        -- the bins of the first of the queue
        have inner : ∀ (d b : Nat) (ls bs : List Bool) (q1 : List Int), b + d = nb → Sound (fitF fits) nb n o ls bs → 2 * cnt (fun i => !rdOf false bs (i : Int)) nb + (q1.length + 1) ≤ u →
            (∀ z ∈ q1, ∃ l : Nat, z = (l : Int) ∧ l < n ∧ rdOf false ls (l : Int) = true) →
            (∀ l : Nat, l < n → rdOf false ls (l : Int) = true → l = h ∨ (l : Int) ∈ q1 ∨ ∀ y : Nat, y < nb → fitF fits l y = true → rdOf false bs (y : Int) = true) →
            (∀ y : Nat, y < nb → rdOf false bs (y : Int) = true → ∀ m : Nat, rd o (y : Int) = (m : Int) → rdOf false ls (m : Int) = true) →
            rdOf false ls (h : Int) = true → (∀ y : Nat, y < b → fitF fits h y = true → rdOf false bs (y : Int) = true) → q1.length + 1 + 2 * cnt (fun i => !rdOf false bs (i : Int)) nb ≤ 100 →
            ∃ ls' bs', Ev (fun k => impl_reached.l2 k fits o ls bs ((h : Int) :: q1) (fits.getD h []) (nb : Int) (b : Int)) (ls', bs') ∧ IsReach (fitF fits) nb n o ls' bs' := by
          intro d
          induction d with
          | zero =>
            intro b ls bs q1 hb hS hu hq hc1 hc2 hh hy hsm
            obtain ⟨ls', bs', hE, hR⟩ := ih (2 * cnt (fun i => !rdOf false bs (i : Int)) nb + q1.length) (by omega) ls bs q1 hS rfl (by omega) hq (fun l hl h1 => by
              rcases hc1 l hl h1 with h2 | h2 | h2
              · subst h2; exact .inr fun y hy2 hf => hy y (by omega) hf
              · exact .inl h2
              · exact .inr h2) hc2 (by omega)
            refine ⟨ls', bs', ?_, hR⟩
            refine Ev.succ ?_
            simp only [impl_reached.l2]
            exact Ev.neg (by omega) (Ev.pos (by simp; omega) hE)
          | succ d ihd =>
            intro b ls bs q1 hb hS hu hq hc1 hc2 hh hy hsm
            have hb' : b < nb := by omega
            by_cases hf : fitF fits h b = true
            · by_cases hm : rdOf false bs (b : Int) = true
              · obtain ⟨ls', bs', hE, hR⟩ := ihd (b + 1) ls bs q1 (by omega) hS hu hq hc1 hc2 hh (fun y hy2 hf2 => by
                  rcases Nat.lt_or_ge y b with h3 | h3
                  · exact hy y h3 hf2
                  · obtain rfl : y = b := by omega
                    exact hm) hsm
                refine ⟨ls', bs', ?_, hR⟩
                refine Ev.succ ?_
                simp only [impl_reached.l2]
                rw [w64n hb' (by omega)]
                exact Ev.pos (by omega) (Ev.pos (by omega) (Ev.pos (by rw [hw h hhn]; omega) (Ev.pos hf (Ev.pos (by rw [hS.lb]; omega) (Ev.pos hm hE)))))
              · have hm0 : rdOf false bs (b : Int) = false := by simpa using hm
                have hrb : RB (fitF fits) nb n o b := ⟨hb', h, hS.sl h hhn hh, hf⟩
                have hS1 := hS.setb hb' hrb
                have hcs := cnt_set bs hb' hS.lb hm0
                have eb : ∀ y : Nat, rdOf false (bs.set b true) (y : Int) = if y = b then true else rdOf false bs (y : Int) := fun y => rdOf_setn _ _ _ _ (by rw [hS.lb]; exact hb')
                have hy1 : ∀ y : Nat, y < b + 1 → fitF fits h y = true → rdOf false (bs.set b true) (y : Int) = true := fun y hy2 hf2 => by
                  rw [eb]; split
                  · rfl
                  · exact hy y (by omega) hf2
                have up : ∀ {y : Nat}, rdOf false bs (y : Int) = true → rdOf false (bs.set b true) (y : Int) = true := fun {y} h3 => by rw [eb]; split <;> simp_all
                have hr := hk.rng b hb'
                by_cases hp : rd o (b : Int) ≥ 0
                · obtain ⟨m, hmo⟩ := exists_nat_of_nonneg hp
                  have hmn : m < n := by omega
                  by_cases hml : rdOf false ls (m : Int) = true
                  · obtain ⟨ls', bs', hE, hR⟩ := ihd (b + 1) ls (bs.set b true) q1 (by omega) hS1 (by omega) hq (fun l hl h1 => by
                      rcases hc1 l hl h1 with h2 | h2 | h2
                      · exact .inl h2
                      · exact .inr (.inl h2)
                      · exact .inr (.inr fun y hy2 hf2 => up (h2 y hy2 hf2))) (fun y hy2 hb2 m' hm' => by
                        rw [eb] at hb2
                        by_cases e : y = b
                        · subst e
                          obtain rfl : m' = m := by omega
                          exact hml
                        · rw [if_neg e] at hb2; exact hc2 y hy2 hb2 m' hm') hh hy1 (by omega)
                    refine ⟨ls', bs', ?_, hR⟩
                    refine Ev.succ ?_
                    simp only [impl_reached.l2]
                    rw [w64n hb' (by omega), toNat_nat]
                    refine Ev.pos (by omega) (Ev.pos (by omega) (Ev.pos (by rw [hw h hhn]; omega) (Ev.pos hf (Ev.pos (by rw [hS.lb]; omega) (Ev.neg hm (Ev.bind0 rfl (Ev.pos (by rw [hk.len]; omega) (Ev.pos hp (Ev.pos hp (Ev.pos (by rw [hS.ll]; omega) (Ev.pos ?_ hE)))))))))))
                    rw [hmo]; exact hml
                  · have hrl : RL (fitF fits) nb n o m := .next (hS.sl h hhn hh) hb' hf hmo
                    have hS2 := hS1.setl hmn hrl
                    have el : ∀ l : Nat, rdOf false (ls.set m true) (l : Int) = if l = m then true else rdOf false ls (l : Int) := fun l => rdOf_setn _ _ _ _ (by rw [hS.ll]; exact hmn)
                    have upl : ∀ {l : Nat}, rdOf false ls (l : Int) = true → rdOf false (ls.set m true) (l : Int) = true := fun {l} h3 => by rw [el]; split <;> simp_all
                    obtain ⟨ls', bs', hE, hR⟩ := ihd (b + 1) (ls.set m true) (bs.set b true) (q1 ++ [(m : Int)]) (by omega) hS2 (by simp; omega) (fun z hz => by
                      rcases List.mem_append.mp hz with hz | hz
                      · obtain ⟨l, e, h3, h4⟩ := hq z hz
                        exact ⟨l, e, h3, upl h4⟩
                      · exact ⟨m, by simpa using hz, hmn, by rw [el, if_pos rfl]⟩) (fun l hl h1 => by
                        rw [el] at h1
                        by_cases e : l = m
                        · subst e; exact .inr (.inl (by simp))
                        · rw [if_neg e] at h1
                          rcases hc1 l hl h1 with h2 | h2 | h2
                          · exact .inl h2
                          · exact .inr (.inl (List.mem_append.mpr (.inl h2)))
                          · exact .inr (.inr fun y hy2 hf2 => up (h2 y hy2 hf2))) (fun y hy2 hb2 m' hm' => by
                        rw [eb] at hb2
                        by_cases e : y = b
                        · subst e
                          obtain rfl : m' = m := by omega
                          rw [el, if_pos rfl]
                        · rw [if_neg e] at hb2; exact upl (hc2 y hy2 hb2 m' hm')) (upl hh) hy1 (by simp; omega)
                    refine ⟨ls', bs', ?_, hR⟩
                    refine Ev.succ ?_
                    simp only [impl_reached.l2]
                    rw [w64n hb' (by omega), toNat_nat]
                    refine Ev.pos (by omega) (Ev.pos (by omega) (Ev.pos (by rw [hw h hhn]; omega) (Ev.pos hf (Ev.pos (by rw [hS.lb]; omega) (Ev.neg hm (Ev.bind0 rfl (Ev.pos (by rw [hk.len]; omega) (Ev.pos hp (Ev.pos hp (Ev.pos (by rw [hS.ll]; omega) (Ev.neg (by rw [hmo]; exact hml) (Ev.pos (by simp; omega) ?_))))))))))))
                    rw [hmo, toNat_nat]; exact hE
                · obtain ⟨ls', bs', hE, hR⟩ := ihd (b + 1) ls (bs.set b true) q1 (by omega) hS1 (by omega) hq (fun l hl h1 => by
                    rcases hc1 l hl h1 with h2 | h2 | h2
                    · exact .inl h2
                    · exact .inr (.inl h2)
                    · exact .inr (.inr fun y hy2 hf2 => up (h2 y hy2 hf2))) (fun y hy2 hb2 m' hm' => by
                      rw [eb] at hb2
                      by_cases e : y = b
                      · subst e; omega
                      · rw [if_neg e] at hb2; exact hc2 y hy2 hb2 m' hm') hh hy1 (by omega)
                  refine ⟨ls', bs', ?_, hR⟩
                  refine Ev.succ ?_
                  simp only [impl_reached.l2]
                  rw [w64n hb' (by omega), toNat_nat]
                  exact Ev.pos (by omega) (Ev.pos (by omega) (Ev.pos (by rw [hw h hhn]; omega) (Ev.pos hf (Ev.pos (by rw [hS.lb]; omega) (Ev.neg hm (Ev.bind0 rfl (Ev.pos (by rw [hk.len]; omega) (Ev.neg hp hE))))))))
            · obtain ⟨ls', bs', hE, hR⟩ := ihd (b + 1) ls bs q1 (by omega) hS hu hq hc1 hc2 hh (fun y hy2 hf2 => by
                rcases Nat.lt_or_ge y b with h3 | h3
                · exact hy y h3 hf2
                · obtain rfl : y = b := by omega
                  exact absurd hf2 hf) hsm
              refine ⟨ls', bs', ?_, hR⟩
              refine Ev.succ ?_
              simp only [impl_reached.l2]
              rw [w64n hb' (by omega)]
              exact Ev.pos (by omega) (Ev.pos (by omega) (Ev.pos (by rw [hw h hhn]; omega) (Ev.neg hf hE)))
        obtain ⟨ls', bs', hE, hR⟩ := inner nb 0 ls bs q0 (by omega) hS (by simp at hu; omega) (fun z hz => hq z (by simp [hz])) (fun l hl h1 => by
          rcases hc1 l hl h1 with h2 | h2
          · rcases List.mem_cons.mp h2 with h3 | h3
            · exact .inl (by omega)
            · exact .inr (.inl h3)
          · exact .inr (.inr h2)) hc2 hhl (fun y hy => by omega) (by simp at hsm; omega)
        refine ⟨ls', bs', ?_, hR⟩
        refine Ev.succ ?_
        simp only [impl_reached.l1]
        have e0 : rd ((h : Int) :: q0) 0 = (h : Int) := by simp [rd]
        rw [e0, hn, fits_rd, hw h hhn]
        exact Ev.pos (by simp only [List.length_cons]; omega) (Ev.pos (by simp only [List.length_cons]; omega) (Ev.pos (by omega) (Ev.pos (by omega) hE)))
  -- those without a bin
  have first : ∀ (d i : Nat) (ls : List Bool) (q : List Int), i + d = n → ls.length = n → q.length ≤ i →
      (∀ l : Nat, l < n → (rdOf false ls (l : Int) = true ↔ l < i ∧ ∀ x : Nat, x < nb → rd o (x : Int) ≠ (l : Int))) → (∀ l : Nat, (l : Int) ∈ q ↔ l < n ∧ rdOf false ls (l : Int) = true) → (∀ z ∈ q, ∃ l : Nat, z = (l : Int)) →
      ∃ ls' bs', Ev (fun k => impl_reached.l0 k fits o ls (List.replicate nb false) q (matchAt o n nb) (n : Int) (i : Int)) (ls', bs') ∧ IsReach (fitF fits) nb n o ls' bs' := by
    intro d
    induction d with
    | zero =>
      intro i ls q hi hl hq hls hmem hz
      have hz0 : ∀ y : Nat, rdOf false (List.replicate nb false) (y : Int) = false := fun y => rdOf_rep nb y
      obtain ⟨ls', bs', hE, hR⟩ := main _ ls (List.replicate nb false) q ⟨hl, by simp, fun l hl2 h => .start hl2 ((hls l hl2).mp h).2, fun y _ h => (by rw [hz0] at h; cases h), fun l hl2 h => (hls l hl2).mpr ⟨by omega, h⟩⟩ rfl (by omega)
        (fun z hz2 => by
          obtain ⟨l, rfl⟩ := hz z hz2
          exact ⟨l, rfl, (hmem l).mp hz2⟩) (fun l hl2 h => .inl ((hmem l).mpr ⟨hl2, h⟩)) (fun y _ h => by rw [hz0] at h; cases h) (by have := cnt_le (fun i => !rdOf false (List.replicate nb false) (i : Int)) nb; omega)
      refine ⟨ls', bs', ?_, hR⟩
      refine Ev.succ ?_
      simp only [impl_reached.l0]
      exact Ev.neg (by omega) hE
    | succ d ih =>
      intro i ls q hi hl hq hls hmem hz
      have hi' : i < n := by omega
      have hneg := matchAt_neg hk hi'
      by_cases hu : rd (matchAt o n nb) (i : Int) < 0
      · have el : ∀ l : Nat, rdOf false (ls.set i true) (l : Int) = if l = i then true else rdOf false ls (l : Int) := fun l => rdOf_setn _ _ _ _ (by omega)
        obtain ⟨ls', bs', hE, hR⟩ := ih (i + 1) (ls.set i true) (q ++ [(i : Int)]) (by omega) (by simp; exact hl) (by simp; omega) (fun l hl2 => by
          rw [el]
          by_cases e : l = i
          · subst e; rw [if_pos rfl]; exact ⟨fun _ => ⟨by omega, hneg.mp hu⟩, fun _ => rfl⟩
          · rw [if_neg e, hls l hl2]
            constructor
            · rintro ⟨a, b⟩; exact ⟨by omega, b⟩
            · rintro ⟨a, b⟩; exact ⟨by omega, b⟩) (fun l => by
          rw [List.mem_append, hmem l, el]
          by_cases e : l = i
          · subst e; rw [if_pos rfl]; simp; exact hi'
          · rw [if_neg e]
            constructor
            · rintro (h | h)
              · exact h
              · rw [List.mem_singleton] at h; omega
            · exact .inl) (fun z hz2 => by
          rcases List.mem_append.mp hz2 with h | h
          · exact hz z h
          · exact ⟨i, by simpa using h⟩)
        refine ⟨ls', bs', ?_, hR⟩
        refine Ev.succ ?_
        simp only [impl_reached.l0]
        rw [w64n hi' (by omega), toNat_nat]
        exact Ev.pos (by omega) (Ev.pos (by omega) (Ev.pos (by rw [matchAt_len]; omega) (Ev.pos hu (Ev.pos (by omega) (Ev.pos (by omega) hE)))))
      · obtain ⟨ls', bs', hE, hR⟩ := ih (i + 1) ls q (by omega) hl (by omega) (fun l hl2 => by
          rw [hls l hl2]
          constructor
          · rintro ⟨a, b⟩; exact ⟨by omega, b⟩
          · rintro ⟨a, b⟩
            refine ⟨?_, b⟩
            rcases Nat.lt_or_ge l i with h | h
            · exact h
            · obtain rfl : l = i := by omega
              exact absurd (hneg.mpr b) hu) hmem hz
        refine ⟨ls', bs', ?_, hR⟩
        refine Ev.succ ?_
        simp only [impl_reached.l0]
        rw [w64n hi' (by omega)]
        exact Ev.pos (by omega) (Ev.pos (by omega) (Ev.pos (by rw [matchAt_len]; omega) (Ev.neg hu hE)))
  obtain ⟨ls', bs', hE, hR⟩ := first n 0 (List.replicate n false) [] (by omega) (by simp) (by simp) (fun l hl => by rw [rdOf_rep]; simp) (fun l => by rw [rdOf_rep]; simp) (fun z hz => by cases hz)
  refine ⟨ls', bs', ?_, hR⟩
  subst hnb hn
  unfold impl_reached.f
  rw [toNat_nat]
  refine Ev.bind (impl_matched_ev fits hg hK) (Ev.pos (by omega) (Ev.pos (by omega) (Ev.pos (by omega) (Ev.pos (by rw [toNat_nat, hk.len]; omega) (Ev.bind (impl_matching_ev o _ _ h8 hb8 hk.len hk.rng) ?_)))))
  rw [toNat_nat, hk.len, matchAt_len]
  exact hE

theorem spec_l8Come_ev (fits : List (List Bool)) (hg : fitOk fits = true) {o : List Int} (hK : Ks (fitF fits) (nbOf fits) fits.length 0 (List.replicate (nbOf fits) (-1)) o) (hk : Kuhn (fitF fits) (nbOf fits) fits.length o) :
    ∃ ls bs, Ev (fun k => spec_l8Come.f k fits) (ls, bs) ∧ IsReach (fitF fits) (nbOf fits) fits.length o ls bs := by
  obtain ⟨h8, hb8, hw⟩ := (fitOk_iff fits).mp hg
  generalize hnb : nbOf fits = nb at *
  generalize hn : fits.length = n at *
  have main : ∀ (u : Nat) (ls bs : List Bool), Sound (fitF fits) nb n o ls bs → cnt (fun i => !rdOf false ls (i : Int)) n + cnt (fun i => !rdOf false bs (i : Int)) nb = u →
      ∃ ls' bs', Ev (fun k => spec_l8Come.l1 k fits (matchAt o n nb) ls bs true) (ls', bs') ∧ IsReach (fitF fits) nb n o ls' bs' := by
    intro u
    induction u using Nat.strongRecOn with
    | _ u ih =>
      have pass : ∀ (d i : Nat) (ls bs : List Bool) (fl : Bool), i + d = n → Sound (fitF fits) nb n o ls bs → cnt (fun i => !rdOf false ls (i : Int)) n + cnt (fun i => !rdOf false bs (i : Int)) nb ≤ u →
          (fl = true → cnt (fun i => !rdOf false ls (i : Int)) n + cnt (fun i => !rdOf false bs (i : Int)) nb < u) →
          (fl = false → ∀ a b : Nat, a < i → b < nb → (rdOf false ls (a : Int) = true → fitF fits a b = true → rdOf false bs (b : Int) = true) ∧ (rdOf false bs (b : Int) = true → rd o (b : Int) = (a : Int) → rdOf false ls (a : Int) = true)) →
          ∃ ls' bs', Ev (fun k => spec_l8Come.l2 k fits (matchAt o n nb) ls bs fl (n : Int) (i : Int)) (ls', bs') ∧ IsReach (fitF fits) nb n o ls' bs' := by
        intro d
        induction d with
        | zero =>
          intro i ls bs fl hi hS hu ht hf
          cases fl with
          | true =>
            obtain ⟨ls', bs', hE, hR⟩ := ih _ (ht rfl) ls bs hS rfl
            refine ⟨ls', bs', ?_, hR⟩
            refine Ev.succ ?_; simp only [spec_l8Come.l2]; exact Ev.neg (by omega) hE
          | false =>
            refine ⟨ls, bs, ?_, hS.closed hk.rng (fun l hl h y hy h2 => (hf rfl l y (by omega) hy).1 h h2) (fun y hy h m hm => ?_)⟩
            · refine Ev.succ ?_; simp only [spec_l8Come.l2]; refine Ev.neg (by omega) (Ev.succ ?_); simp only [spec_l8Come.l1]; exact Ev.neg (by simp) (Ev.now _)
            · have := hk.rng y hy
              exact (hf rfl m y (by omega) hy).2 h hm
        | succ d ihd =>
          intro i ls bs fl hi hS hu ht hf
          have hi' : i < n := by omega
          have inner : ∀ (e b : Nat) (ls bs : List Bool) (fl : Bool), b + e = nb → Sound (fitF fits) nb n o ls bs → cnt (fun i => !rdOf false ls (i : Int)) n + cnt (fun i => !rdOf false bs (i : Int)) nb ≤ u →
              (fl = true → cnt (fun i => !rdOf false ls (i : Int)) n + cnt (fun i => !rdOf false bs (i : Int)) nb < u) →
              (fl = false → ∀ a c : Nat, c < nb → (a < i ∨ a = i ∧ c < b) → (rdOf false ls (a : Int) = true → fitF fits a c = true → rdOf false bs (c : Int) = true) ∧ (rdOf false bs (c : Int) = true → rd o (c : Int) = (a : Int) → rdOf false ls (a : Int) = true)) →
              ∃ ls' bs', Ev (fun k => spec_l8Come.l3 k fits (matchAt o n nb) ls bs fl (i : Int) (n : Int) (i : Int) (nb : Int) (b : Int)) (ls', bs') ∧ IsReach (fitF fits) nb n o ls' bs' := by
            intro e
            induction e with
            | zero =>
              intro b ls bs fl hb hS hu ht hf
              obtain ⟨ls', bs', hE, hR⟩ := ihd (i + 1) ls bs fl (by omega) hS hu ht (fun h a c ha hc => hf h a c hc (by omega))
              refine ⟨ls', bs', ?_, hR⟩
              refine Ev.succ ?_
              simp only [spec_l8Come.l3]
              rw [w64n hi' (by omega)]
              exact Ev.neg (by omega) hE
            | succ e ihe =>
              intro b ls bs fl hb hS hu ht hf
              have hb' : b < nb := by omega
              -- what the round asks first
              have go : ∀ {r : List Bool × List Bool}, Ev (fun k => spec_l8Come.j4 k fits (matchAt o n nb) ls bs fl (i : Int) (b : Int) (n : Int) (i : Int) (nb : Int) (b : Int) (rdOf false ls (i : Int) && (fitF fits i b && !rdOf false bs (b : Int)))) r →
                  Ev (fun k => spec_l8Come.l3 k fits (matchAt o n nb) ls bs fl (i : Int) (n : Int) (i : Int) (nb : Int) (b : Int)) r := fun {r} h => by
                refine Ev.succ ?_
                simp only [spec_l8Come.l3]
                rw [fits_rd]
                refine Ev.pos (by omega) (Ev.pos (by omega) (Ev.pos (by rw [hS.ll]; omega) (Ev.ite (fun h1 => Ev.pos (by omega) (Ev.pos (by omega) (Ev.pos (by rw [hw i hi']; omega) (Ev.ite (fun h2 => Ev.pos (by rw [hS.lb]; omega) ?_) (fun h2 => ?_))))) (fun h1 => ?_))))
                · rw [h1, show fitF fits i b = true from h2, Bool.true_and, Bool.true_and] at h; exact h
                · rw [h1, show fitF fits i b = false from by simpa [fitF] using h2, Bool.false_and, Bool.and_false] at h; exact h
                · rw [show rdOf false ls (i : Int) = false from by simpa using h1, Bool.false_and] at h; exact h
              have hmi := matchAt_iff hk hi' hb'
              have eb : ∀ y : Nat, rdOf false (bs.set b true) (y : Int) = if y = b then true else rdOf false bs (y : Int) := fun y => rdOf_setn _ _ _ _ (by rw [hS.lb]; exact hb')
              have el : ∀ l : Nat, rdOf false (ls.set i true) (l : Int) = if l = i then true else rdOf false ls (l : Int) := fun l => rdOf_setn _ _ _ _ (by rw [hS.ll]; exact hi')
              by_cases hA : rdOf false ls (i : Int) = true ∧ fitF fits i b = true ∧ rdOf false bs (b : Int) = false
              · obtain ⟨a1, a2, a3⟩ := hA
                have hcs := cnt_set bs hb' hS.lb a3
                obtain ⟨ls', bs', hE, hR⟩ := ihe (b + 1) ls (bs.set b true) true (by omega) (hS.setb hb' ⟨hb', i, hS.sl i hi' a1, a2⟩) (by omega) (fun _ => by omega) (fun h => by cases h)
                refine ⟨ls', bs', go ?_, hR⟩
                rw [a1, a2, a3]
                refine Ev.succ ?_
                simp only [spec_l8Come.j4]
                rw [w64n hb' (by omega), toNat_nat]
                refine Ev.pos rfl (Ev.pos (by omega) (Ev.pos (by rw [hS.lb]; omega) (Ev.bind0 rfl (Ev.pos (by rw [eb, if_pos rfl]) (Ev.pos (by omega) (Ev.pos (by rw [matchAt_len]; omega) (Ev.ite (fun _ => Ev.pos (by rw [hS.ll]; omega) (Ev.pos a1 hE)) (fun _ => hE))))))))
              · have hx : (rdOf false ls (i : Int) && (fitF fits i b && !rdOf false bs (b : Int))) = false := by
                  cases h1 : rdOf false ls (i : Int) <;> cases h2 : fitF fits i b <;> cases h3 : rdOf false bs (b : Int) <;> simp_all
                rw [hx] at go
                by_cases hB : rdOf false bs (b : Int) = true ∧ rd o (b : Int) = (i : Int) ∧ rdOf false ls (i : Int) = false
                · obtain ⟨b1, b2, b3⟩ := hB
                  have hcs := cnt_set ls hi' hS.ll b3
                  obtain ⟨_, l, hl, hf2⟩ := hS.sb b hb' b1
                  obtain ⟨ls', bs', hE, hR⟩ := ihe (b + 1) (ls.set i true) bs true (by omega) (hS.setl hi' (.next hl hb' hf2 b2)) (by omega) (fun _ => by omega) (fun h => by cases h)
                  refine ⟨ls', bs', go ?_, hR⟩
                  refine Ev.succ ?_
                  simp only [spec_l8Come.j4]
                  rw [w64n hb' (by omega), toNat_nat]
                  exact Ev.neg (by simp) (Ev.pos (by omega) (Ev.pos (by rw [hS.lb]; omega) (Ev.pos b1 (Ev.pos (by omega) (Ev.pos (by rw [matchAt_len]; omega) (Ev.pos (hmi.mpr b2) (Ev.pos (by rw [hS.ll]; omega) (Ev.neg (by rw [b3]; simp) hE))))))))
                · obtain ⟨ls', bs', hE, hR⟩ := ihe (b + 1) ls bs fl (by omega) hS hu ht (fun h a c hc hac => by
                    by_cases e2 : a = i ∧ c = b
                    · obtain ⟨rfl, rfl⟩ := e2
                      refine ⟨fun h1 h2 => ?_, fun h1 h2 => ?_⟩
                      · cases h3 : rdOf false bs (c : Int) with
                        | true => rfl
                        | false => exact absurd ⟨h1, h2, h3⟩ hA
                      · cases h3 : rdOf false ls (a : Int) with
                        | true => rfl
                        | false => exact absurd ⟨h1, h2, h3⟩ hB
                    · exact hf h a c hc (by omega))
                  refine ⟨ls', bs', go ?_, hR⟩
                  refine Ev.succ ?_
                  simp only [spec_l8Come.j4]
                  rw [w64n hb' (by omega)]
                  refine Ev.neg (by simp) (Ev.pos (by omega) (Ev.pos (by rw [hS.lb]; omega) (Ev.ite (fun h1 => Ev.pos (by omega) (Ev.pos (by rw [matchAt_len]; omega) (Ev.ite (fun h2 => Ev.pos (by rw [hS.ll]; omega) (Ev.pos ?_ hE)) (fun _ => hE)))) (fun _ => hE))))
                  cases h3 : rdOf false ls (i : Int) with
                  | true => rfl
                  | false => exact absurd ⟨h1, hmi.mp h2, h3⟩ hB
          obtain ⟨ls', bs', hE, hR⟩ := inner nb 0 ls bs fl (by omega) hS hu ht (fun h a c hc hac => hf h a c (by omega) hc)
          refine ⟨ls', bs', ?_, hR⟩
          refine Ev.succ ?_
          simp only [spec_l8Come.l2]
          rw [hS.lb]
          exact Ev.pos (by omega) hE
      intro ls bs hS hu
      obtain ⟨ls', bs', hE, hR⟩ := pass n 0 ls bs false (by omega) hS (by omega) (fun h => by cases h) (fun _ a b ha => by omega)
      refine ⟨ls', bs', ?_, hR⟩
      refine Ev.succ ?_
      simp only [spec_l8Come.l1]
      rw [hn]
      exact Ev.pos trivial hE
  have first : ∀ (d i : Nat) (ls : List Bool), i + d = n → ls.length = n → (∀ l : Nat, l < n → (rdOf false ls (l : Int) = true ↔ l < i ∧ ∀ x : Nat, x < nb → rd o (x : Int) ≠ (l : Int))) →
      ∃ ls' bs', Ev (fun k => spec_l8Come.l0 k fits (matchAt o n nb) ls (List.replicate nb false) (matchAt o n nb) (n : Int) (i : Int)) (ls', bs') ∧ IsReach (fitF fits) nb n o ls' bs' := by
    intro d
    induction d with
    | zero =>
      intro i ls hi hl hls
      have hz0 : ∀ y : Nat, rdOf false (List.replicate nb false) (y : Int) = false := fun y => rdOf_rep nb y
      obtain ⟨ls', bs', hE, hR⟩ := main _ ls (List.replicate nb false) ⟨hl, by simp, fun l hl2 h => .start hl2 ((hls l hl2).mp h).2, fun y _ h => (by rw [hz0] at h; cases h), fun l hl2 h => (hls l hl2).mpr ⟨by omega, h⟩⟩ rfl
      refine ⟨ls', bs', ?_, hR⟩
      refine Ev.succ ?_
      simp only [spec_l8Come.l0]
      exact Ev.neg (by omega) hE
    | succ d ih =>
      intro i ls hi hl hls
      have hi' : i < n := by omega
      have hneg := matchAt_neg hk hi'
      have el : ∀ l : Nat, rdOf false (ls.set i (decide (rd (matchAt o n nb) (i : Int) < 0))) (l : Int) = if l = i then decide (rd (matchAt o n nb) (i : Int) < 0) else rdOf false ls (l : Int) := fun l => rdOf_setn _ _ _ _ (by omega)
      obtain ⟨ls', bs', hE, hR⟩ := ih (i + 1) (ls.set i (decide (rd (matchAt o n nb) (i : Int) < 0))) (by omega) (by simp; exact hl) (fun l hl2 => by
        rw [el]
        by_cases e : l = i
        · subst e; rw [if_pos rfl, decide_eq_true_eq, hneg]; exact ⟨fun h => ⟨by omega, h⟩, fun h => h.2⟩
        · rw [if_neg e, hls l hl2]
          constructor
          · rintro ⟨a, b⟩; exact ⟨by omega, b⟩
          · rintro ⟨a, b⟩; exact ⟨by omega, b⟩)
      refine ⟨ls', bs', ?_, hR⟩
      refine Ev.succ ?_
      simp only [spec_l8Come.l0]
      rw [w64n hi' (by omega), toNat_nat]
      exact Ev.pos (by omega) (Ev.pos (by omega) (Ev.pos (by rw [matchAt_len]; omega) (Ev.pos (by omega) hE)))
  obtain ⟨ls', bs', hE, hR⟩ := first n 0 (List.replicate n false) (by omega) (by simp) (fun l hl => by rw [rdOf_rep]; simp)
  refine ⟨ls', bs', ?_, hR⟩
  subst hnb hn
  unfold spec_l8Come.f
  rw [toNat_nat]
  refine Ev.bind (spec_l8Match_ev fits hg hK) (Ev.pos (by omega) (Ev.pos (by omega) (Ev.bind0 (spec_l8Bins_eq fits) (Ev.pos (by omega) (Ev.pos (by rw [toNat_nat]; omega) ?_)))))
  rw [toNat_nat, matchAt_len]
  exact hE

def numsOf (l : List Bool) (so : Bool) : Nat → List Int
  | 0 => []
  | i + 1 => if rdOf false l (i : Int) = so then numsOf l so i ++ [(i : Int)] else numsOf l so i
theorem numsOf_len (l : List Bool) (so : Bool) (n : Nat) : (numsOf l so n).length = cnt (fun i => rdOf false l (i : Int) == so) n := by
  induction n with
  | zero => rfl
  | succ n ih =>
    simp only [numsOf, cnt]
    by_cases h : rdOf false l (n : Int) = so
    · rw [if_pos h, List.length_append, ih, h]; simp
    · rw [if_neg h, ih]; simp [h]
theorem numsOf_le (l : List Bool) (so : Bool) (n : Nat) : (numsOf l so n).length ≤ n := by rw [numsOf_len]; exact cnt_le _ _

theorem impl_numbered_ev (l : List Bool) (so : Bool) (h : l.length ≤ 1048576) : Ev (fun k => impl_numbered.f k l so) (numsOf l so l.length) := by
  unfold impl_numbered.f
  refine ev_up l.length (fun k i => impl_numbered.l0 k so (numsOf l so i) l (l.length : Int) (i : Int)) _ (fun _ => True) trivial ?_ ?_
  · intro _; refine Ev.succ ?_; simp only [impl_numbered.l0]; exact Ev.neg (by omega) (Ev.now _)
  · intro i hi _ hn
    have hn := hn trivial
    have := numsOf_le l so i
    refine Ev.succ ?_
    simp only [impl_numbered.l0]
    rw [w64n hi (by omega)]
    simp only [numsOf] at hn
    refine Ev.pos (by omega) (Ev.pos (by omega) (Ev.pos (by omega) (Ev.ite (fun h1 => Ev.pos (by omega) ?_) (fun h1 => ?_))))
    · rw [if_pos (by simpa using h1)] at hn; exact hn
    · rw [if_neg (by simpa using h1)] at hn; exact hn

theorem spec_l8Those_ev (l : List Bool) (so : Bool) (h : l.length ≤ 1048576) : Ev (fun k => spec_l8Those.f k l so) (numsOf l so l.length) := by
  unfold spec_l8Those.f
  refine ev_up l.length (fun k i => spec_l8Those.l0 k so (numsOf l so i) l (l.length : Int) (i : Int)) _ (fun _ => True) trivial ?_ ?_
  · intro _; refine Ev.succ ?_; simp only [spec_l8Those.l0]; exact Ev.neg (by omega) (Ev.now _)
  · intro i hi _ hn
    have hn := hn trivial
    have := numsOf_le l so i
    refine Ev.succ ?_
    simp only [spec_l8Those.l0]
    rw [w64n hi (by omega)]
    simp only [numsOf] at hn
    refine Ev.pos (by omega) (Ev.pos (by omega) (Ev.pos (by omega) (Ev.ite (fun h1 => Ev.pos (by omega) ?_) (fun h1 => ?_))))
    · rw [if_pos (by simpa using h1)] at hn; exact hn
    · rw [if_neg (by simpa using h1)] at hn; exact hn

theorem reach_both (fits : List (List Bool)) (hg : fitOk fits = true) {o : List Int} (hK : Ks (fitF fits) (nbOf fits) fits.length 0 (List.replicate (nbOf fits) (-1)) o) (hk : Kuhn (fitF fits) (nbOf fits) fits.length o) :
    ∃ ls bs, Ev (fun k => impl_reached.f k fits) (ls, bs) ∧ Ev (fun k => spec_l8Come.f k fits) (ls, bs) ∧ IsReach (fitF fits) (nbOf fits) fits.length o ls bs := by
  obtain ⟨ls, bs, h1, h2⟩ := impl_reached_ev fits hg hK hk
  obtain ⟨ls', bs', h3, h4⟩ := spec_l8Come_ev fits hg hK hk
  obtain ⟨rfl, rfl⟩ := h2.uniq h4
  exact ⟨ls, bs, h1, h3, h2⟩

theorem CoverOf_ev (fits : List (List Bool)) (h : fits.length ≤ 1048576) : ∃ a b ok, Ev (fun k => impl_CoverOf.f k fits) (a, b, ok) ∧ Ev (fun k => spec_CoverOf.f k fits) (a, b, ok) ∧ a.length ≤ 8 ∧ b.length ≤ 8 ∧ ok = fitOk fits ∧
    (fitOk fits = true → ∀ o, Ks (fitF fits) (nbOf fits) fits.length 0 (List.replicate (nbOf fits) (-1)) o → Kuhn (fitF fits) (nbOf fits) fits.length o → ∃ ls bs, IsReach (fitF fits) (nbOf fits) fits.length o ls bs ∧ a = numsOf ls false fits.length ∧ b = numsOf bs true (nbOf fits)) := by
  unfold impl_CoverOf.f spec_CoverOf.f
  have g1 := impl_GoodFits_ev fits h
  have g2 := spec_GoodFits_ev fits h
  by_cases hg : fitOk fits = true
  · obtain ⟨h8, hb8, hw⟩ := (fitOk_iff fits).mp hg
    obtain ⟨o, hK, hk⟩ := kuhn (fitF fits) (nbOf fits) fits.length
    obtain ⟨ls, bs, h1, h2, h3⟩ := reach_both fits hg hK hk
    have l1 := numsOf_le ls false ls.length
    have l2 := numsOf_le bs true bs.length
    have e1 := h3.ll
    have e2 := h3.lb
    refine ⟨numsOf ls false ls.length, numsOf bs true bs.length, true, Ev.bind g1 (Ev.pos hg (Ev.bind h1 (Ev.bind (impl_numbered_ev _ _ (by dsimp only; omega)) (Ev.bind (impl_numbered_ev _ _ (by dsimp only; omega)) (Ev.now _))))), Ev.bind g2 (Ev.pos hg (Ev.bind h2 (Ev.bind (spec_l8Those_ev _ _ (by dsimp only; omega)) (Ev.bind (spec_l8Those_ev _ _ (by dsimp only; omega)) (Ev.now _))))), by omega, by omega, hg.symm, fun _ o' hK' hk' => ?_⟩
    obtain ⟨ls', bs', h1', _, h3'⟩ := reach_both fits hg hK' hk'
    have := Ev.uniq h1 h1'
    simp only [Prod.mk.injEq] at this
    obtain ⟨rfl, rfl⟩ := this
    exact ⟨ls, bs, h3', by rw [e1], by rw [e2]⟩
  · refine ⟨[], [], false, Ev.bind g1 (Ev.neg hg (Ev.now _)), Ev.bind g2 (Ev.neg hg (Ev.now _)), by simp, by simp, (Bool.eq_false_iff.mpr hg).symm, fun h => absurd h hg⟩

theorem FnExactCoverOf : laws_FnExactCoverOf.Pure := by
  intro l0 hw
  refine Ev.rounds (g := fun k => laws_FnExactCoverOf.f k l0) ?_
  unfold laws_FnExactCoverOf.f
  obtain ⟨r, hr, hlen⟩ := laws_szBoolSS_ev l0 hw.1 (fun x hx => (hw.2 x hx).1)
  refine Ev.bind hr (Ev.ite (fun _ => Ev.now _) fun h => ?_)
  obtain ⟨hl, hrow⟩ := hlen (by omega)
  have t0 := laws_toBoolSS_ev l0 hl hrow
  have e0 := laws_eqBoolSS_ev l0 hl hrow
  obtain ⟨g, d, b, hI, hS, hg8, hd8, _⟩ := CoverOf_ev l0 hl
  obtain ⟨q, y, hq, hm⟩ := laws_markBoolSS_ev l0 hl hrow
  have eg := laws_eqIntS_ev g (by omega)
  have ed := laws_eqIntS_ev d (by omega)
  have mg := laws_markIntS_ev g 1 (by omega) (by omega)
  have hg := laws_heldIntS_ev g.length 1 (by omega) (by omega)
  have md := laws_markIntS_ev d (1 + (g.length : Int)) (by omega) (by omega)
  have hd := laws_heldIntS_ev d.length (1 + (g.length : Int)) (by omega) (by omega)
  refine Ev.bind t0 (Ev.bind hS (Ev.bind t0 (Ev.bind hI (Ev.bind eg (Ev.pos rfl (Ev.bind ed (Ev.pos rfl ?_)))))))
  refine Ev.succ ?_
  simp only [laws_FnExactCoverOf.j0, bne_self_eq_false, Bool.false_eq_true, if_false]
  refine Ev.bind t0 (Ev.bind e0 (Ev.pos rfl (Ev.bind hm (Ev.neg (by dsimp only; omega) (Ev.bind eg (Ev.pos rfl (Ev.bind ed (Ev.pos rfl ?_))))))))
  refine Ev.succ ?_
  simp only [laws_FnExactCoverOf.j1, Bool.false_eq_true, if_false]
  refine Ev.bind mg (Ev.bind md (Ev.bind hg (Ev.neg (by omega) (Ev.bind hd (Ev.neg (by omega) (Ev.pos rfl (Ev.bind t0 (Ev.bind hI (Ev.bind eg (Ev.pos rfl (Ev.bind ed (Ev.pos rfl ?_))))))))))))
  refine Ev.succ ?_
  simp only [laws_FnExactCoverOf.j2, bne_self_eq_false, Bool.false_eq_true, if_false]
  exact Ev.bind hg (Ev.neg (by omega) (Ev.bind hd (Ev.neg (by omega) (Ev.pos rfl (Ev.now _)))))
end Go.Proofs.Ytpagpbamdpllnaa.Pure
namespace Go.Proofs.Ytpagpbamdpllnaa.RowW
open Go.ChangeShapes Go.WideShapes Go.Deep Go.RowKit Go.Proofs.YtpagpbamdpllnaaW.PrintWords Go.Proofs.YtpagpbamdpllnaaW.PrintLast Go.Proofs.YtpagpbamdpllnaaW.PrintMore Go.Proofs.Ytpagpbamdpllnaa.Print
def Opens {α : Type} (P : Program) (d : Kd α) (wf : α → Prop) (t : TypeId) : Prop :=
  ∀ {H : Type} {enc : TypeId × Value → H} {W : World} {base : Nat} {spare : Nat → Bool} {held : Bool} {fuel : Nat} {cs : List Value} {x : DataW H × List MemPlace}, DataW.trod enc P W base spare held fuel t cs = some x → ∃ a, d.K W a cs ∧ wf a
theorem Opens.int {P : Program} {k : IntKind} {t : TypeId} (ht : P.underlying t = some (.int k)) : Opens P (Kd.int k) (fun n : Int => (Lit.int k n).wf = true) t := by
  intro H enc W base spare held fuel cs x h
  obtain ⟨n, rfl, _, hw⟩ := DataW.trod_int ht h
  exact ⟨n, rfl, hw⟩
theorem Opens.bool {P : Program} {t : TypeId} (ht : P.underlying t = some .bool) : Opens P Kd.bool (fun _ : Bool => True) t := by
  intro H enc W base spare held fuel cs x h
  obtain ⟨n, rfl, _⟩ := DataW.trod_bool ht h
  exact ⟨n, rfl, trivial⟩
theorem Opens.string {P : Program} {t : TypeId} (ht : P.underlying t = some .string) : Opens P Kd.string (fun s : ByteArray => s.size ≤ maxLen) t := by
  intro H enc W base spare held fuel cs x h
  obtain ⟨n, rfl, _, hw⟩ := DataW.trod_string ht h
  exact ⟨n, rfl, hw⟩
theorem pick_list {α : Type} {Q : Nat → α → Prop} (n : Nat) (h : ∀ i, i < n → ∃ a, Q i a) : ∃ xs : List α, xs.length = n ∧ ∀ i a, xs[i]? = some a → Q i a := by
  induction n with
  | zero => exact ⟨[], rfl, fun i a hh => by simp at hh⟩
  | succ n ih =>
    obtain ⟨xs, hl, hq⟩ := ih fun i hi => h i (by omega)
    obtain ⟨a, ha⟩ := h n (by omega)
    refine ⟨xs ++ [a], by simp [hl], fun i b hb => ?_⟩
    rcases Nat.lt_or_ge i xs.length with hi | hi
    · rw [List.getElem?_append_left hi] at hb; exact hq i b hb
    · rw [List.getElem?_append_right hi] at hb
      have : i = n := by
        have := (List.getElem?_eq_some_iff.1 hb).1
        simp at this; omega
      subst this
      rw [hl, Nat.sub_self] at hb
      obtain rfl : a = b := by simpa using hb
      exact ha
theorem Opens.slice {P : Program} {α : Type} {d : Kd α} {wf : α → Prop} {t e : TypeId} (ht : P.underlying t = some (.slice e)) (hc : P.cellsOf e = d.sz) (ho : Opens P d wf e) : Opens P (Kd.slice e d) (fun xs : List α => xs.length ≤ maxLen ∧ ∀ x ∈ xs, wf x) t := by
  intro H enc W base spare held fuel cs x h
  rcases open_slice ht h with ⟨rfl, _⟩ | ⟨a, len, cap, m, n, D, Pl, rfl, hb, hl, hm, hmm, _, hi⟩
  · exact ⟨[], ⟨none, 0, rfl, Nat.le_refl _, Kd.C_nil d W⟩, by simp, by simp⟩
  · have hlm : len ≤ m := by rw [hmm]; split <;> omega
    obtain ⟨xs, hlen, hxs⟩ := pick_list (Q := fun i b => (∃ c, W.cells? base (a.add (i * P.cellsOf e)) (P.cellsOf e) = some c ∧ d.K W b c) ∧ wf b) len (fun i him => by
      obtain ⟨c, h1, h2⟩ := hi i (by omega)
      obtain ⟨b, h3, h4⟩ := ho h2
      exact ⟨b, ⟨c, h1, h3⟩, h4⟩)
    have hml : maxLen = 9223372036854775807 := rfl
    refine ⟨xs, ⟨some a, cap, by rw [hlen], by omega, ⟨rfl, by omega, fun _ => ⟨a, rfl, fun j p hj => ?_⟩⟩⟩, by omega, fun p hp => ?_⟩
    · obtain ⟨⟨c, h1, h2⟩, _⟩ := hxs j p hj
      obtain ⟨_, hcl, hat⟩ := World.cells?_some h1
      refine ⟨c, d.K_len h2, h2, fun i u hu => ?_⟩
      have hic : i < c.length := (List.getElem?_eq_some_iff.1 hu).1
      rw [← hc, ← Go.Deep.add_add, hat i (by omega)]
      exact hu
    · obtain ⟨i, hi'⟩ := List.getElem?_of_mem hp
      exact (hxs i p hi').2
theorem field_some {β : Type} {ys : List β} {o : Option β} (i : Nat) (h : i < ys.length) (e : o = ys[i]?) : o = some ys[i] := e.trans (List.getElem?_eq_getElem h)
end Go.Proofs.Ytpagpbamdpllnaa.RowW
