/- No owners that fit travel less than the slots given out: every fraction over 2520. -/
import Derived.Test.YtneojimdhnhkeaaCFnSlots0
import Derived.Test.YtneojimdhnhkeaaCFnSlots1
import Derived.Test.YtneojimdhnhkeaaCFnSlots3
import Derived.Test.YtneojimdhnhkeaaCFnSlots2
set_option linter.unusedVariables false
set_option linter.unusedSimpArgs false
namespace Go.Proofs.Ytneojimdhnhkeaa.Print
open Go.RowKit Go.Proofs.YtneojimdhnhkeaaW.PrintWords Go.Proofs.YtneojimdhnhkeaaW.PrintLast Go.Proofs.YtneojimdhnhkeaaW.PrintMore
attribute [local go_sem] max2_int min2_int max_two min_two Qu Qv max_four min_four

def impl_LessFrac.f (k:Nat) (a0_0:Int) (a0_1:Int) (a1_0:Int) (a1_1:Int):Option (Bool×Bool):=(impl_areFracs.f k (([(⟨a0_0,a0_1⟩:S50),(⟨a1_0,a1_1⟩:S50)]:List (S50)))).bind fun t106=>(if t106=true then ((impl_compareFracs.f a0_0 a0_1 a1_0 a1_1).bind fun t107=>(some (decide (t107<0),true))) else (some (false,false)))
set_option maxHeartbeats 8000000 in
set_option maxRecDepth 100000 in
theorem impl_LessFrac.calls (k:Nat) (a0_0:Int) (a0_1:Int) (a1_0:Int) (a1_1:Int) (r1:Bool) (r2:Bool) (w:World) (h:impl_LessFrac.f k a0_0 a0_1 a1_0 a1_1=some (r1,r2)) :
    Calls Try.prog 47 #[.agg #[.int .i64 a0_0,.int .i64 a0_1],.agg #[.int .i64 a1_0,.int .i64 a1_1]] w fun e w'=>e= .returned (.tuple #[.bool r1,.bool r2])∧Below w.heap.size w w':=by
  have hu50:=Try.underlying50;have HB:=aM (Below.refl w.heap.size w);have H:((impl_areFracs.f k (([(⟨a0_0,a0_1⟩:S50),(⟨a1_0,a1_1⟩:S50)]:List (S50)))).bind fun t106=>(if t106=true then ((impl_compareFracs.f a0_0 a0_1 a1_0 a1_1).bind fun t107=>(some (decide (t107<0),true))) else (some (false,false))))=some (r1,r2):=h;clear h;obtain ⟨y103,hy103⟩:∃ y_:List (S50),y_=(([(⟨a0_0,a0_1⟩:S50),(⟨a1_0,a1_1⟩:S50)]:List (S50))):=⟨_,rfl⟩;replace H:((impl_areFracs.f k y103).bind fun t106=>(if t106=true then ((impl_compareFracs.f a0_0 a0_1 a1_0 a1_1).bind fun t107=>(some (decide (t107<0),true))) else (some (false,false))))=some (r1,r2):=by first|(rw [hy103];with_reducible exact H)|(have H2_:=(Option.bind_some _ _).symm.trans H;rw [hy103];with_reducible exact H2_)|(have H2_:=(Option.bind_some _ _).symm.trans H;with_reducible exact H2_)|with_reducible exact H|(rw [hy103];exact H)|exact H
  have Ny103:=aM hy103;clear hy103;replace H:=Option.bind_eq_some_iff.mp H;obtain ⟨t106,A30,H⟩:=H;replace H:(if t106=true then ((impl_compareFracs.f a0_0 a0_1 a1_0 a1_1).bind fun t107=>(some (decide (t107<0),true))) else (some (false,false)))=some (r1,r2):=H;have A3:=aM A30;clear A30;by_cases c4:t106=true
  ·subst c4;have H1:((impl_compareFracs.f a0_0 a0_1 a1_0 a1_1).bind fun t107=>(some (decide (t107<0),true)))=some (r1,r2):=by rw [if_pos rfl] at H;exact H
   clear H;have H:=H1;clear H1;replace H:=Option.bind_eq_some_iff.mp H;obtain ⟨t107,A50,H⟩:=H;replace H:(some (decide (t107<0),true))=some (r1,r2):=H;have A5:=aM A50;clear A50;simp only [Option.some.injEq,Prod.mk.injEq] at H;obtain ⟨rfl,rfl⟩:=H;go_enter Try.func47,Try.ntmps47;go_wp2_with (first|((with_reducible refine Qs (N:=2) rfl ?_);refine Qt ?hg (N:=2) ?hd (cs:=#[.int .i64 a0_0,.int .i64 a0_1]) (t:=50) ?hr ?_;(case hd=>rfl);(case hg=>rfl);(case hr=>first|(go_simp;done)|(go_simp;rfl));intro gb101 hg w6 hbox hb;have n0_:=aM (Ql (by repeat (with_reducible first|exact HB.out|apply Qc|apply Qa|apply Qb)) hb);have n1_:=aM (hbox);have n2_:=aM ((by rw [hg];exact (Qj (by repeat (with_reducible first|exact HB.out|apply Qc|apply Qa|apply Qb))):w.heap.size≤gb101));have n3_:=aM ((by rw [hg];exact (Qj (by repeat (with_reducible first|exact HB.out|apply Qc|apply Qa|apply Qb))):w.heap.size≤gb101));clear HB;have HB:=n0_;have BK101:=n1_;have GW101:=n2_;have GE101:=n3_;clear n0_ n1_ n2_ n3_ hb hbox hg)|((with_reducible refine Qs (N:=3) rfl ?_);refine Qt ?hg (N:=3) ?hd (cs:=#[.int .i64 a1_0,.int .i64 a1_1]) (t:=50) ?hr ?_;(case hd=>rfl);(case hg=>rfl);(case hr=>first|(go_simp;done)|(go_simp;rfl));intro gb102 hg w7 hbox hb;have n0_:=aM (Qm (g:=gb101) (o:= .cells #[.int .i64 a0_0,.int .i64 a0_1] 50 (0,0)) (by (with_reducible repeat first|apply Qf|apply Qg|apply Qe);exact BK101.out) hb);have n1_:=aM (Ql (by repeat first|(with_reducible first|exact HB.out|apply Qc|apply Qa|apply Qb|refine Qd ?_ GE101.out)|exact HB.out) hb);have n2_:=aM (hbox);have n3_:=aM ((by rw [hg];exact (Qj (by repeat first|(with_reducible first|exact HB.out|apply Qc|apply Qa|apply Qb|refine Qd ?_ GE101.out)|exact HB.out)):w.heap.size≤gb102));have n4_:=aM ((by rw [hg];exact (Qj (by repeat first|(with_reducible first|exact HB.out|apply Qc|apply Qa|apply Qb|refine Qd ?_ GE101.out)|exact HB.out)):w.heap.size≤gb102));have n5_:=aM ((by rw [hg];exact Nat.ne_of_lt (blk_lt (g:=gb101) (o:= .cells #[.int .i64 a0_0,.int .i64 a0_1] 50 (0,0)) (by (with_reducible repeat first|apply Qf|apply Qg|apply Qe);exact BK101.out)):gb101≠gb102));have n6_:=aM ((by rw [hg];exact Nat.ne_of_gt (blk_lt (g:=gb101) (o:= .cells #[.int .i64 a0_0,.int .i64 a0_1] 50 (0,0)) (by (with_reducible repeat first|apply Qf|apply Qg|apply Qe);exact BK101.out)):gb102≠gb101));clear BK101 HB;have BK101:=n0_;have HB:=n1_;have BK102:=n2_;have GW102:=n3_;have GE102:=n4_;have NB101_102:=n5_;have NB102_101:=n6_;clear n0_ n1_ n2_ n3_ n4_ n5_ n6_ hb hbox hg;have hnb8:=NB101_102.out;have hnc8:=NB102_101.out;have hcz9_0:w7.cell? ⟨gb101,0,none⟩=some (.int .i64 a0_0):=(Qn BK101.out 0).trans rfl;have hcz9_1:w7.cell? ⟨gb101,1,none⟩=some (.int .i64 a0_1):=(Qn BK101.out 1).trans rfl;have hfz9_0:=Qk BK101.out 0;have hfz9_1:=Qk BK101.out 1;have hcz10_0:w7.cell? ⟨gb102,0,none⟩=some (.int .i64 a1_0):=(Qn BK102.out 0).trans rfl;have hcz10_1:w7.cell? ⟨gb102,1,none⟩=some (.int .i64 a1_1):=(Qn BK102.out 1).trans rfl;have hfz10_0:=Qk BK102.out 0;have hfz10_1:=Qk BK102.out 1)|((with_reducible refine Qs (N:=8) rfl ?_);refine Kd.R_lit k50 _ 50 ?hg (N:=8) ?hd (xs:=([(⟨a0_0,a0_1⟩:S50),(⟨a1_0,a1_1⟩:S50)]:List (S50))) (inner:=[.int .i64 a0_0,.int .i64 a0_1,.int .i64 a1_0,.int .i64 a1_1]) (ok:=fun _=>True) (okp:=fun _=>True) ?hr ?hp (fun _ hk=>hk) trivial (Below.refl _ _) (Nat.le_refl _) (by simp) ?_;(case hd=>rfl);(case hg=>rfl);(case hr=>first|(go_simp;done)|(go_simp;rfl));(case hp=>exact (Reps.c2 (show Kd.M k50 _ _ _ (⟨a0_0,a0_1⟩:S50) [.int .i64 a0_0,.int .i64 a0_1] from (k50_mkM _ _ _ (⟨a0_0,a0_1⟩:S50))) (Reps.c2 (show Kd.M k50 _ _ _ (⟨a1_0,a1_1⟩:S50) [.int .i64 a1_0,.int .i64 a1_1] from (k50_mkM _ _ _ (⟨a1_0,a1_1⟩:S50))) (Reps.none _ _))));intro v104 w11 ho12 hb hg_ hnew_;clear hg_ hnew_;(first|rw [←Ny103.out] at ho12|(simp only [Int.reduceToNat] at ho12;rw [←Ny103.out] at ho12));have n0_:=aM (Kd.R_lower (Kd.R_newB (Kd.R_newB ho12 (g:=gb101) (o:= .cells #[.int .i64 a0_0,.int .i64 a0_1] 50 (0,0)) (by (with_reducible repeat first|apply Qf|apply Qg|apply Qe);exact BK101.out)) (g:=gb102) (o:= .cells #[.int .i64 a1_0,.int .i64 a1_1] 50 (0,0)) (by (with_reducible repeat first|apply Qf|apply Qg|apply Qe);exact BK102.out)) (Qj (by repeat first|(with_reducible first|exact HB.out|apply Qc|apply Qa|apply Qb|refine Qd ?_ GE101.out|refine Qd ?_ GE102.out)|exact HB.out)));have n1_:=aM (Qm (g:=gb101) (o:= .cells #[.int .i64 a0_0,.int .i64 a0_1] 50 (0,0)) (by (with_reducible repeat first|apply Qf|apply Qg|apply Qe);exact BK101.out) hb);have n2_:=aM (Qm (g:=gb102) (o:= .cells #[.int .i64 a1_0,.int .i64 a1_1] 50 (0,0)) (by (with_reducible repeat first|apply Qf|apply Qg|apply Qe);exact BK102.out) hb);have n3_:=aM (Ql (by repeat first|(with_reducible first|exact HB.out|apply Qc|apply Qa|apply Qb|refine Qd ?_ GE101.out|refine Qd ?_ GE102.out)|exact HB.out) hb);clear BK101 BK102 HB;have HO105:=n0_;have BK101:=n1_;have BK102:=n2_;have HB:=n3_;clear n0_ n1_ n2_ n3_ hb ho12;obtain ⟨Ao13,co13,eo13⟩:=Kd.R_slice HO105.out;subst eo13)|((with_reducible refine Qp (f:=182) rfl ?_);refine goesL_ (some 9) rfl rfl Try.func182 (by kernel_rfl) rfl #[.slice Ao13 y103.length co13] rfl (by (try simp only [aD,aE,aF]);first|done|rfl|(simp only [aG,aH];rfl)) ?_;(with_reducible refine (impl_areFracs.calls k _ _ y103 true _ ?side1 ?side2 A3.out).mono ?_);(case side1=>repeat first|exact (Kd.Qo HO105.out).2.2|(with_reducible first|refine Kd.Qq ?_ _|refine Kd.Qr ?_ _|refine Kd.C_drew ?_));(case side2=>exact (Kd.Qo HO105.out).2.1);rintro e w14 ⟨rfl,hb⟩;refine ⟨_,rfl,?_⟩;have n0_:=aM (Kd.R_below (by (with_reducible repeat first|apply Kd.Qh|apply Kd.Qi|apply Kd.R_drew);exact HO105.out) hb);have n1_:=aM (Qm (g:=gb101) (o:= .cells #[.int .i64 a0_0,.int .i64 a0_1] 50 (0,0)) (by (with_reducible repeat first|apply Qf|apply Qg|apply Qe);exact BK101.out) hb);have n2_:=aM (Qm (g:=gb102) (o:= .cells #[.int .i64 a1_0,.int .i64 a1_1] 50 (0,0)) (by (with_reducible repeat first|apply Qf|apply Qg|apply Qe);exact BK102.out) hb);have n3_:=aM (Ql (by repeat first|(with_reducible first|exact HB.out|apply Qc|apply Qa|apply Qb|refine Qd ?_ GE101.out|refine Qd ?_ GE102.out)|exact HB.out) hb);clear HO105 BK101 BK102 HB;have HO105:=n0_;have BK101:=n1_;have BK102:=n2_;have HB:=n3_;clear n0_ n1_ n2_ n3_ hb;have hcz15_0:w14.cell? ⟨gb101,0,none⟩=some (.int .i64 a0_0):=(Qn BK101.out 0).trans rfl;have hcz15_1:w14.cell? ⟨gb101,1,none⟩=some (.int .i64 a0_1):=(Qn BK101.out 1).trans rfl;have hfz15_0:=Qk BK101.out 0;have hfz15_1:=Qk BK101.out 1;have hcz16_0:w14.cell? ⟨gb102,0,none⟩=some (.int .i64 a1_0):=(Qn BK102.out 0).trans rfl;have hcz16_1:w14.cell? ⟨gb102,1,none⟩=some (.int .i64 a1_1):=(Qn BK102.out 1).trans rfl;have hfz16_0:=Qk BK102.out 0;have hfz16_1:=Qk BK102.out 1)|((with_reducible refine Qp (f:=183) rfl ?_);refine goesL_ (some 13) rfl rfl Try.func183 (by kernel_rfl) rfl #[.agg #[.int .i64 a0_0,.int .i64 a0_1],.agg #[.int .i64 a1_0,.int .i64 a1_1]] rfl (by (try simp only [aD,aE,aF]);first|done|rfl|(simp only [aG,aH];rfl)) ?_;(with_reducible refine (impl_compareFracs.calls a0_0 a0_1 a1_0 a1_1 t107 _ A5.out).mono ?_);rintro e w17 ⟨rfl,hb⟩;refine ⟨_,rfl,?_⟩;have n0_:=aM (Kd.R_below (by (with_reducible repeat first|apply Kd.Qh|apply Kd.Qi|apply Kd.R_drew);exact HO105.out) hb);have n1_:=aM (Qm (g:=gb101) (o:= .cells #[.int .i64 a0_0,.int .i64 a0_1] 50 (0,0)) (by (with_reducible repeat first|apply Qf|apply Qg|apply Qe);exact BK101.out) hb);have n2_:=aM (Qm (g:=gb102) (o:= .cells #[.int .i64 a1_0,.int .i64 a1_1] 50 (0,0)) (by (with_reducible repeat first|apply Qf|apply Qg|apply Qe);exact BK102.out) hb);have n3_:=aM (Ql (by repeat first|(with_reducible first|exact HB.out|apply Qc|apply Qa|apply Qb|refine Qd ?_ GE101.out|refine Qd ?_ GE102.out)|exact HB.out) hb);clear HO105 BK101 BK102 HB;have HO105:=n0_;have BK101:=n1_;have BK102:=n2_;have HB:=n3_;clear n0_ n1_ n2_ n3_ hb))
   go_ret2
   exact ⟨by first|rfl|(simp [errW_none,errW_some] <;> rfl)|(simp [*,errW_none,errW_some] <;> rfl),by repeat (first|(with_reducible first|exact HB.out|apply Qc|apply Qa|apply Qb|refine Qd ?_ GE101.out|refine Qd ?_ GE102.out)|exact HB.out)⟩
  ·replace c4:=Bool.eq_false_iff.mpr c4;subst c4;have H1:(some (false,false))=some (r1,r2):=by rw [if_neg (show ¬ (false=true) by decide)] at H;exact H
   clear H;have H:=H1;clear H1;simp only [Option.some.injEq,Prod.mk.injEq] at H;obtain ⟨rfl,rfl⟩:=H;go_enter Try.func47,Try.ntmps47;go_wp2_with (first|((with_reducible refine Qs (N:=2) rfl ?_);refine Qt ?hg (N:=2) ?hd (cs:=#[.int .i64 a0_0,.int .i64 a0_1]) (t:=50) ?hr ?_;(case hd=>rfl);(case hg=>rfl);(case hr=>first|(go_simp;done)|(go_simp;rfl));intro gb101 hg w18 hbox hb;have n0_:=aM (Ql (by repeat (with_reducible first|exact HB.out|apply Qc|apply Qa|apply Qb)) hb);have n1_:=aM (hbox);have n2_:=aM ((by rw [hg];exact (Qj (by repeat (with_reducible first|exact HB.out|apply Qc|apply Qa|apply Qb))):w.heap.size≤gb101));have n3_:=aM ((by rw [hg];exact (Qj (by repeat (with_reducible first|exact HB.out|apply Qc|apply Qa|apply Qb))):w.heap.size≤gb101));clear HB;have HB:=n0_;have BK101:=n1_;have GW101:=n2_;have GE101:=n3_;clear n0_ n1_ n2_ n3_ hb hbox hg)|((with_reducible refine Qs (N:=3) rfl ?_);refine Qt ?hg (N:=3) ?hd (cs:=#[.int .i64 a1_0,.int .i64 a1_1]) (t:=50) ?hr ?_;(case hd=>rfl);(case hg=>rfl);(case hr=>first|(go_simp;done)|(go_simp;rfl));intro gb102 hg w19 hbox hb;have n0_:=aM (Qm (g:=gb101) (o:= .cells #[.int .i64 a0_0,.int .i64 a0_1] 50 (0,0)) (by (with_reducible repeat first|apply Qf|apply Qg|apply Qe);exact BK101.out) hb);have n1_:=aM (Ql (by repeat first|(with_reducible first|exact HB.out|apply Qc|apply Qa|apply Qb|refine Qd ?_ GE101.out)|exact HB.out) hb);have n2_:=aM (hbox);have n3_:=aM ((by rw [hg];exact (Qj (by repeat first|(with_reducible first|exact HB.out|apply Qc|apply Qa|apply Qb|refine Qd ?_ GE101.out)|exact HB.out)):w.heap.size≤gb102));have n4_:=aM ((by rw [hg];exact (Qj (by repeat first|(with_reducible first|exact HB.out|apply Qc|apply Qa|apply Qb|refine Qd ?_ GE101.out)|exact HB.out)):w.heap.size≤gb102));have n5_:=aM ((by rw [hg];exact Nat.ne_of_lt (blk_lt (g:=gb101) (o:= .cells #[.int .i64 a0_0,.int .i64 a0_1] 50 (0,0)) (by (with_reducible repeat first|apply Qf|apply Qg|apply Qe);exact BK101.out)):gb101≠gb102));have n6_:=aM ((by rw [hg];exact Nat.ne_of_gt (blk_lt (g:=gb101) (o:= .cells #[.int .i64 a0_0,.int .i64 a0_1] 50 (0,0)) (by (with_reducible repeat first|apply Qf|apply Qg|apply Qe);exact BK101.out)):gb102≠gb101));clear BK101 HB;have BK101:=n0_;have HB:=n1_;have BK102:=n2_;have GW102:=n3_;have GE102:=n4_;have NB101_102:=n5_;have NB102_101:=n6_;clear n0_ n1_ n2_ n3_ n4_ n5_ n6_ hb hbox hg;have hnb20:=NB101_102.out;have hnc20:=NB102_101.out;have hcz21_0:w19.cell? ⟨gb101,0,none⟩=some (.int .i64 a0_0):=(Qn BK101.out 0).trans rfl;have hcz21_1:w19.cell? ⟨gb101,1,none⟩=some (.int .i64 a0_1):=(Qn BK101.out 1).trans rfl;have hfz21_0:=Qk BK101.out 0;have hfz21_1:=Qk BK101.out 1;have hcz22_0:w19.cell? ⟨gb102,0,none⟩=some (.int .i64 a1_0):=(Qn BK102.out 0).trans rfl;have hcz22_1:w19.cell? ⟨gb102,1,none⟩=some (.int .i64 a1_1):=(Qn BK102.out 1).trans rfl;have hfz22_0:=Qk BK102.out 0;have hfz22_1:=Qk BK102.out 1)|((with_reducible refine Qs (N:=8) rfl ?_);refine Kd.R_lit k50 _ 50 ?hg (N:=8) ?hd (xs:=([(⟨a0_0,a0_1⟩:S50),(⟨a1_0,a1_1⟩:S50)]:List (S50))) (inner:=[.int .i64 a0_0,.int .i64 a0_1,.int .i64 a1_0,.int .i64 a1_1]) (ok:=fun _=>True) (okp:=fun _=>True) ?hr ?hp (fun _ hk=>hk) trivial (Below.refl _ _) (Nat.le_refl _) (by simp) ?_;(case hd=>rfl);(case hg=>rfl);(case hr=>first|(go_simp;done)|(go_simp;rfl));(case hp=>exact (Reps.c2 (show Kd.M k50 _ _ _ (⟨a0_0,a0_1⟩:S50) [.int .i64 a0_0,.int .i64 a0_1] from (k50_mkM _ _ _ (⟨a0_0,a0_1⟩:S50))) (Reps.c2 (show Kd.M k50 _ _ _ (⟨a1_0,a1_1⟩:S50) [.int .i64 a1_0,.int .i64 a1_1] from (k50_mkM _ _ _ (⟨a1_0,a1_1⟩:S50))) (Reps.none _ _))));intro v104 w23 ho24 hb hg_ hnew_;clear hg_ hnew_;(first|rw [←Ny103.out] at ho24|(simp only [Int.reduceToNat] at ho24;rw [←Ny103.out] at ho24));have n0_:=aM (Kd.R_lower (Kd.R_newB (Kd.R_newB ho24 (g:=gb101) (o:= .cells #[.int .i64 a0_0,.int .i64 a0_1] 50 (0,0)) (by (with_reducible repeat first|apply Qf|apply Qg|apply Qe);exact BK101.out)) (g:=gb102) (o:= .cells #[.int .i64 a1_0,.int .i64 a1_1] 50 (0,0)) (by (with_reducible repeat first|apply Qf|apply Qg|apply Qe);exact BK102.out)) (Qj (by repeat first|(with_reducible first|exact HB.out|apply Qc|apply Qa|apply Qb|refine Qd ?_ GE101.out|refine Qd ?_ GE102.out)|exact HB.out)));have n1_:=aM (Qm (g:=gb101) (o:= .cells #[.int .i64 a0_0,.int .i64 a0_1] 50 (0,0)) (by (with_reducible repeat first|apply Qf|apply Qg|apply Qe);exact BK101.out) hb);have n2_:=aM (Qm (g:=gb102) (o:= .cells #[.int .i64 a1_0,.int .i64 a1_1] 50 (0,0)) (by (with_reducible repeat first|apply Qf|apply Qg|apply Qe);exact BK102.out) hb);have n3_:=aM (Ql (by repeat first|(with_reducible first|exact HB.out|apply Qc|apply Qa|apply Qb|refine Qd ?_ GE101.out|refine Qd ?_ GE102.out)|exact HB.out) hb);clear BK101 BK102 HB;have HO105:=n0_;have BK101:=n1_;have BK102:=n2_;have HB:=n3_;clear n0_ n1_ n2_ n3_ hb ho24;obtain ⟨Ao25,co25,eo25⟩:=Kd.R_slice HO105.out;subst eo25)|((with_reducible refine Qp (f:=182) rfl ?_);refine goesL_ (some 9) rfl rfl Try.func182 (by kernel_rfl) rfl #[.slice Ao25 y103.length co25] rfl (by (try simp only [aD,aE,aF]);first|done|rfl|(simp only [aG,aH];rfl)) ?_;(with_reducible refine (impl_areFracs.calls k _ _ y103 false _ ?side1 ?side2 A3.out).mono ?_);(case side1=>repeat first|exact (Kd.Qo HO105.out).2.2|(with_reducible first|refine Kd.Qq ?_ _|refine Kd.Qr ?_ _|refine Kd.C_drew ?_));(case side2=>exact (Kd.Qo HO105.out).2.1);rintro e w26 ⟨rfl,hb⟩;refine ⟨_,rfl,?_⟩;have n0_:=aM (Kd.R_below (by (with_reducible repeat first|apply Kd.Qh|apply Kd.Qi|apply Kd.R_drew);exact HO105.out) hb);have n1_:=aM (Qm (g:=gb101) (o:= .cells #[.int .i64 a0_0,.int .i64 a0_1] 50 (0,0)) (by (with_reducible repeat first|apply Qf|apply Qg|apply Qe);exact BK101.out) hb);have n2_:=aM (Qm (g:=gb102) (o:= .cells #[.int .i64 a1_0,.int .i64 a1_1] 50 (0,0)) (by (with_reducible repeat first|apply Qf|apply Qg|apply Qe);exact BK102.out) hb);have n3_:=aM (Ql (by repeat first|(with_reducible first|exact HB.out|apply Qc|apply Qa|apply Qb|refine Qd ?_ GE101.out|refine Qd ?_ GE102.out)|exact HB.out) hb);clear HO105 BK101 BK102 HB;have HO105:=n0_;have BK101:=n1_;have BK102:=n2_;have HB:=n3_;clear n0_ n1_ n2_ n3_ hb))
   go_ret2
   exact ⟨by first|rfl|(simp [errW_none,errW_some] <;> rfl)|(simp [*,errW_none,errW_some] <;> rfl),by repeat (first|(with_reducible first|exact HB.out|apply Qc|apply Qa|apply Qb|refine Qd ?_ GE101.out|refine Qd ?_ GE102.out)|exact HB.out)⟩

def spec_DrawOwnersFit.f (k:Nat) (l0:List Int):Option (List Int×List Int):=(spec_DrawTravelOf.f k l0).bind fun bt101=>(some (bt101.2.1,bt101.2.2.2))
set_option maxHeartbeats 8000000 in
set_option maxRecDepth 100000 in
theorem spec_DrawOwnersFit.calls (k:Nat) (A0:Option Addr) (c0:Nat) (l0:List Int) (r1:List Int) (r2:List Int) (w:World) (hr0:Kd.C (Kd.int .u8) w A0 l0.length l0) (hc0:l0.length≤c0) (h:spec_DrawOwnersFit.f k l0=some (r1,r2)) :
    Calls Try.prog 48 #[.slice A0 l0.length c0] w fun e w'=>∃ v0_ v1_:Value,e= .returned (.tuple #[v0_,v1_])∧Kd.R (Kd.int .i64) 3 w' w.heap.size (fun k_=>some k_≠(v1_:Value).ownBlock) v0_ r1∧Kd.R (Kd.int .i64) 3 w' w.heap.size (fun k_=>some k_≠(v0_:Value).ownBlock) v1_ r2∧Below w.heap.size w w':=by
  have HR0:=aM hr0;have HC0:=aM hc0;clear hr0 hc0;have HB:=aM (Below.refl w.heap.size w);have H:((spec_DrawTravelOf.f k l0).bind fun bt101=>(some (bt101.2.1,bt101.2.2.2)))=some (r1,r2):=h;clear h;replace H:=Option.bind_eq_some_iff.mp H;obtain ⟨⟨t101,t102,t103,t104⟩,A20,H⟩:=H;replace H:(some (t102,t104))=some (r1,r2):=H;have A2:=aM A20;clear A20;simp only [Option.some.injEq,Prod.mk.injEq] at H;obtain ⟨rfl,rfl⟩:=H;go_enter Try.func48,Try.ntmps48;go_wp2_with (first|((with_reducible refine Qp (f:=41) rfl ?_);refine goesL_ (some 10) rfl rfl Try.func41 (by kernel_rfl) rfl #[.slice A0 l0.length c0] rfl (by (try simp only [aD,aE,aF]);first|done|rfl|(simp only [aG,aH];rfl)) ?_;(with_reducible refine (spec_DrawTravelOf.calls k _ _ l0 t101 t102 t103 t104 _ ?side1 ?side2 A2.out).mono ?_);(case side1=>repeat first|exact HR0.out|(with_reducible first|refine Kd.Qq ?_ _|refine Kd.Qr ?_ _|refine Kd.C_drew ?_));(case side2=>exact HC0.out);rintro e w3 ⟨v105,v107,v109,v111,rfl,ho0,ho1,ho2,ho3,hb⟩;refine ⟨_,rfl,?_⟩;have n0_:=aM (Kd.R_lower ho0 (Qj (by repeat (with_reducible first|exact HB.out|apply Qc|apply Qa|apply Qb))));have n1_:=aM (Kd.R_lower ho1 (Qj (by repeat (with_reducible first|exact HB.out|apply Qc|apply Qa|apply Qb))));have n2_:=aM (Kd.R_lower ho2 (Qj (by repeat (with_reducible first|exact HB.out|apply Qc|apply Qa|apply Qb))));have n3_:=aM (Kd.R_lower ho3 (Qj (by repeat (with_reducible first|exact HB.out|apply Qc|apply Qa|apply Qb))));have n4_:=aM (Ql (by repeat (with_reducible first|exact HB.out|apply Qc|apply Qa|apply Qb)) hb);clear HB;have HO106:=n0_;have HO108:=n1_;have HO110:=n2_;have HO112:=n3_;have HB:=n4_;clear n0_ n1_ n2_ n3_ n4_;(try clear hb);(try clear hb2);(try clear hk);(try clear hi);(try clear ho0);(try clear ho1);(try clear ho2);(try clear ho3)))
  go_ret2
  exact ⟨_,_,by first|rfl|(simp [errW_none,errW_some] <;> rfl)|(simp [*,errW_none,errW_some] <;> rfl),by (with_reducible repeat first|apply Kd.Qh|apply Kd.Qi|apply Kd.R_drew);exact Kd.R_mono HO108.out (fun _ hk=>hk.2.2),by (with_reducible repeat first|apply Kd.Qh|apply Kd.Qi|apply Kd.R_drew);exact Kd.R_mono HO112.out (fun _ hk=>hk.2.1),by repeat (with_reducible first|exact HB.out|apply Qc|apply Qa|apply Qb)⟩

def spec_l17Sum.f (k:Nat) (l0:List Int):Option (Int):=(spec_l1All.f k l0 1 10).bind fun t101=>(if t101=true then (if (l0.length:Int) > 8 then (some (-1)) else ((spec_l3Sum.f k l0).bind fun t102=>(some t102))) else (some (-1)))
set_option maxHeartbeats 8000000 in
set_option maxRecDepth 100000 in
theorem spec_l17Sum.calls (k:Nat) (A0:Option Addr) (c0:Nat) (l0:List Int) (r:Int) (w:World) (hr0:Kd.C (Kd.int .i64) w A0 l0.length l0) (hc0:l0.length≤c0) (h:spec_l17Sum.f k l0=some r) :
    Calls Try.prog 185 #[.slice A0 l0.length c0] w fun e w'=>e= .returned (.int .i64 r)∧Drawn0 w w':=by
  have HR0:=aM hr0;have HC0:=aM hc0;clear hr0 hc0;have H:((spec_l1All.f k l0 1 10).bind fun t101=>(if t101=true then (if (l0.length:Int) > 8 then (some (-1)) else ((spec_l3Sum.f k l0).bind fun t102=>(some t102))) else (some (-1))))=some r:=h;clear h;replace H:=Option.bind_eq_some_iff.mp H;obtain ⟨t101,A20,H⟩:=H;replace H:(if t101=true then (if (l0.length:Int) > 8 then (some (-1)) else ((spec_l3Sum.f k l0).bind fun t102=>(some t102))) else (some (-1)))=some r:=H;have A2:=aM A20;clear A20;by_cases c3:t101=true
  ·subst c3;have H1:(if (l0.length:Int) > 8 then (some (-1)) else ((spec_l3Sum.f k l0).bind fun t102=>(some t102)))=some r:=by rw [if_pos rfl] at H;exact H
   clear H;have H:=H1;clear H1;by_cases c4:(l0.length:Int) > 8
   ·rw [if_pos c4] at H;have c4b0:decide (8<(l0.length:Int))=true:=aL c4;have c4b1:decide (8<l0.length)=true:=aL (by omega);clear c4;obtain rfl:=Option.some.inj H;go_enter Try.func185,Try.ntmps185;go_wp2_with (first|((with_reducible refine Qp (f:=168) rfl ?_);refine goesL_ (some 4) rfl rfl Try.func168 (by kernel_rfl) rfl #[.slice A0 l0.length c0,.int .i64 1,.int .i64 10] rfl (by (try simp only [aD,aE,aF]);first|done|rfl|(simp only [aG,aH];rfl)) ?_;(with_reducible refine (spec_l1All.calls k _ _ l0 1 10 true _ ?side1 ?side2 A2.out).mono ?_);(case side1=>repeat first|exact HR0.out|(with_reducible first|refine Kd.Qq ?_ _|refine Kd.Qr ?_ _|refine Kd.C_drew ?_));(case side2=>exact HC0.out);rintro e w' ⟨rfl,⟨nd,rfl⟩⟩;refine ⟨_,rfl,?_⟩))
    go_ret
    exact ⟨by first|rfl|(simp;done)|(simp [*];done),by repeat (first|exact Drawn0.refl _|apply Drawn0.step)⟩
   ·rw [if_neg c4] at H;have c4b0:decide (8<(l0.length:Int))=false:=aN c4;have c4b1:decide (8<l0.length)=false:=aN (by omega);clear c4;replace H:=Option.bind_eq_some_iff.mp H;obtain ⟨t102,A50,H⟩:=H;replace H:(some t102)=some r:=H;have A5:=aM A50;clear A50;obtain rfl:=Option.some.inj H;go_enter Try.func185,Try.ntmps185;go_wp2_with (first|((with_reducible refine Qp (f:=168) rfl ?_);refine goesL_ (some 4) rfl rfl Try.func168 (by kernel_rfl) rfl #[.slice A0 l0.length c0,.int .i64 1,.int .i64 10] rfl (by (try simp only [aD,aE,aF]);first|done|rfl|(simp only [aG,aH];rfl)) ?_;(with_reducible refine (spec_l1All.calls k _ _ l0 1 10 true _ ?side1 ?side2 A2.out).mono ?_);(case side1=>repeat first|exact HR0.out|(with_reducible first|refine Kd.Qq ?_ _|refine Kd.Qr ?_ _|refine Kd.C_drew ?_));(case side2=>exact HC0.out);rintro e w' ⟨rfl,⟨nd,rfl⟩⟩;refine ⟨_,rfl,?_⟩)|((with_reducible refine Qp (f:=163) rfl ?_);refine goesL_ (some 12) rfl rfl Try.func163 (by kernel_rfl) rfl #[.slice A0 l0.length c0] rfl (by (try simp only [aD,aE,aF]);first|done|rfl|(simp only [aG,aH];rfl)) ?_;(with_reducible refine (spec_l3Sum.calls k _ _ l0 t102 _ ?side1 ?side2 A5.out).mono ?_);(case side1=>repeat first|exact HR0.out|(with_reducible first|refine Kd.Qq ?_ _|refine Kd.Qr ?_ _|refine Kd.C_drew ?_));(case side2=>exact HC0.out);rintro e w' ⟨rfl,⟨nd,rfl⟩⟩;refine ⟨_,rfl,?_⟩))
    go_ret
    exact ⟨by first|rfl|(simp;done)|(simp [*];done),by repeat (first|exact Drawn0.refl _|apply Drawn0.step)⟩
  ·replace c3:=Bool.eq_false_iff.mpr c3;subst c3;have H1:(some (-1))=some r:=by rw [if_neg (show ¬ (false=true) by decide)] at H;exact H
   clear H;have H:=H1;clear H1;obtain rfl:=Option.some.inj H;go_enter Try.func185,Try.ntmps185;go_wp2_with (first|((with_reducible refine Qp (f:=168) rfl ?_);refine goesL_ (some 4) rfl rfl Try.func168 (by kernel_rfl) rfl #[.slice A0 l0.length c0,.int .i64 1,.int .i64 10] rfl (by (try simp only [aD,aE,aF]);first|done|rfl|(simp only [aG,aH];rfl)) ?_;(with_reducible refine (spec_l1All.calls k _ _ l0 1 10 false _ ?side1 ?side2 A2.out).mono ?_);(case side1=>repeat first|exact HR0.out|(with_reducible first|refine Kd.Qq ?_ _|refine Kd.Qr ?_ _|refine Kd.C_drew ?_));(case side2=>exact HC0.out);rintro e w' ⟨rfl,⟨nd,rfl⟩⟩;refine ⟨_,rfl,?_⟩))
   go_ret
   exact ⟨by first|rfl|(simp;done)|(simp [*];done),by repeat (first|exact Drawn0.refl _|apply Drawn0.step)⟩

def spec_OwnersFit.f (k:Nat) (l0:List Int) (l1:List Int):Option (Bool×Bool):=(spec_l17Sum.f k l0).bind fun t101=>((spec_l17Counts.f k l0 t101).bind fun t102=>(if t102=true then ((spec_l17Fit.f k l0 l1).bind fun t103=>(some (t103,true))) else (some (false,false))))
set_option maxHeartbeats 8000000 in
set_option maxRecDepth 100000 in
theorem spec_OwnersFit.calls (k:Nat) (A0:Option Addr) (c0:Nat) (l0:List Int) (A1:Option Addr) (c1:Nat) (l1:List Int) (r1:Bool) (r2:Bool) (w:World) (hr0:Kd.C (Kd.int .i64) w A0 l0.length l0) (hc0:l0.length≤c0) (hr1:Kd.C (Kd.int .i64) w A1 l1.length l1) (hc1:l1.length≤c1) (h:spec_OwnersFit.f k l0 l1=some (r1,r2)) :
    Calls Try.prog 49 #[.slice A0 l0.length c0,.slice A1 l1.length c1] w fun e w'=>e= .returned (.tuple #[.bool r1,.bool r2])∧Below w.heap.size w w':=by
  have HR0:=aM hr0;have HC0:=aM hc0;clear hr0 hc0;have HR1:=aM hr1;have HC1:=aM hc1;clear hr1 hc1;have HB:=aM (Below.refl w.heap.size w);have H:((spec_l17Sum.f k l0).bind fun t101=>((spec_l17Counts.f k l0 t101).bind fun t102=>(if t102=true then ((spec_l17Fit.f k l0 l1).bind fun t103=>(some (t103,true))) else (some (false,false)))))=some (r1,r2):=h;clear h;replace H:=Option.bind_eq_some_iff.mp H;obtain ⟨t101,A30,H⟩:=H;replace H:((spec_l17Counts.f k l0 t101).bind fun t102=>(if t102=true then ((spec_l17Fit.f k l0 l1).bind fun t103=>(some (t103,true))) else (some (false,false))))=some (r1,r2):=H;have A3:=aM A30;clear A30;replace H:=Option.bind_eq_some_iff.mp H;obtain ⟨t102,A40,H⟩:=H;replace H:(if t102=true then ((spec_l17Fit.f k l0 l1).bind fun t103=>(some (t103,true))) else (some (false,false)))=some (r1,r2):=H;have A4:=aM A40;clear A40;by_cases c5:t102=true
  ·subst c5;have H1:((spec_l17Fit.f k l0 l1).bind fun t103=>(some (t103,true)))=some (r1,r2):=by rw [if_pos rfl] at H;exact H
   clear H;have H:=H1;clear H1;replace H:=Option.bind_eq_some_iff.mp H;obtain ⟨t103,A60,H⟩:=H;replace H:(some (t103,true))=some (r1,r2):=H;have A6:=aM A60;clear A60;simp only [Option.some.injEq,Prod.mk.injEq] at H;obtain ⟨rfl,rfl⟩:=H;go_enter Try.func49,Try.ntmps49;go_wp2_with (first|((with_reducible refine Qp (f:=185) rfl ?_);refine goesL_ (some 8) rfl rfl Try.func185 (by kernel_rfl) rfl #[.slice A0 l0.length c0] rfl (by (try simp only [aD,aE,aF]);first|done|rfl|(simp only [aG,aH];rfl)) ?_;(with_reducible refine (spec_l17Sum.calls k _ _ l0 t101 _ ?side1 ?side2 A3.out).mono ?_);(case side1=>repeat first|exact HR0.out|(with_reducible first|refine Kd.Qq ?_ _|refine Kd.Qr ?_ _|refine Kd.C_drew ?_));(case side2=>exact HC0.out);rintro e w' ⟨rfl,⟨nd,rfl⟩⟩;refine ⟨_,rfl,?_⟩)|((with_reducible refine Qp (f:=184) rfl ?_);refine goesL_ (some 9) rfl rfl Try.func184 (by kernel_rfl) rfl #[.slice A0 l0.length c0,.int .i64 t101] rfl (by (try simp only [aD,aE,aF]);first|done|rfl|(simp only [aG,aH];rfl)) ?_;(with_reducible refine (spec_l17Counts.calls k _ _ l0 t101 true _ ?side1 ?side2 A4.out).mono ?_);(case side1=>repeat first|exact HR0.out|(with_reducible first|refine Kd.Qq ?_ _|refine Kd.Qr ?_ _|refine Kd.C_drew ?_));(case side2=>exact HC0.out);rintro e w' ⟨rfl,⟨nd,rfl⟩⟩;refine ⟨_,rfl,?_⟩)|((with_reducible refine Qp (f:=177) rfl ?_);refine goesL_ (some 13) rfl rfl Try.func177 (by kernel_rfl) rfl #[.slice A0 l0.length c0,.slice A1 l1.length c1] rfl (by (try simp only [aD,aE,aF]);first|done|rfl|(simp only [aG,aH];rfl)) ?_;(with_reducible refine (spec_l17Fit.calls k _ _ l0 _ _ l1 t103 _ ?side1 ?side2 ?side3 ?side4 A6.out).mono ?_);(case side1=>repeat first|exact HR0.out|(with_reducible first|refine Kd.Qq ?_ _|refine Kd.Qr ?_ _|refine Kd.C_drew ?_));(case side2=>exact HC0.out);(case side3=>repeat first|exact HR1.out|(with_reducible first|refine Kd.Qq ?_ _|refine Kd.Qr ?_ _|refine Kd.C_drew ?_));(case side4=>exact HC1.out);rintro e w7 ⟨rfl,hb⟩;refine ⟨_,rfl,?_⟩;have n0_:=aM (Ql (by repeat (with_reducible first|exact HB.out|apply Qc|apply Qa|apply Qb)) hb);clear HB;have HB:=n0_;clear n0_ hb))
   go_ret2
   exact ⟨by first|rfl|(simp [errW_none,errW_some] <;> rfl)|(simp [*,errW_none,errW_some] <;> rfl),by repeat (with_reducible first|exact HB.out|apply Qc|apply Qa|apply Qb)⟩
  ·replace c5:=Bool.eq_false_iff.mpr c5;subst c5;have H1:(some (false,false))=some (r1,r2):=by rw [if_neg (show ¬ (false=true) by decide)] at H;exact H
   clear H;have H:=H1;clear H1;simp only [Option.some.injEq,Prod.mk.injEq] at H;obtain ⟨rfl,rfl⟩:=H;go_enter Try.func49,Try.ntmps49;go_wp2_with (first|((with_reducible refine Qp (f:=185) rfl ?_);refine goesL_ (some 8) rfl rfl Try.func185 (by kernel_rfl) rfl #[.slice A0 l0.length c0] rfl (by (try simp only [aD,aE,aF]);first|done|rfl|(simp only [aG,aH];rfl)) ?_;(with_reducible refine (spec_l17Sum.calls k _ _ l0 t101 _ ?side1 ?side2 A3.out).mono ?_);(case side1=>repeat first|exact HR0.out|(with_reducible first|refine Kd.Qq ?_ _|refine Kd.Qr ?_ _|refine Kd.C_drew ?_));(case side2=>exact HC0.out);rintro e w' ⟨rfl,⟨nd,rfl⟩⟩;refine ⟨_,rfl,?_⟩)|((with_reducible refine Qp (f:=184) rfl ?_);refine goesL_ (some 9) rfl rfl Try.func184 (by kernel_rfl) rfl #[.slice A0 l0.length c0,.int .i64 t101] rfl (by (try simp only [aD,aE,aF]);first|done|rfl|(simp only [aG,aH];rfl)) ?_;(with_reducible refine (spec_l17Counts.calls k _ _ l0 t101 false _ ?side1 ?side2 A4.out).mono ?_);(case side1=>repeat first|exact HR0.out|(with_reducible first|refine Kd.Qq ?_ _|refine Kd.Qr ?_ _|refine Kd.C_drew ?_));(case side2=>exact HC0.out);rintro e w' ⟨rfl,⟨nd,rfl⟩⟩;refine ⟨_,rfl,?_⟩))
   go_ret2
   exact ⟨by first|rfl|(simp [errW_none,errW_some] <;> rfl)|(simp [*,errW_none,errW_some] <;> rfl),by repeat (with_reducible first|exact HB.out|apply Qc|apply Qa|apply Qb)⟩

attribute [local go_sem high] eqA50
mutual
def laws_FnSlots.j0:Nat→List Int→List Int→List Int→List Int→Bool→List Int→Bool→Bool→Int→Int→Option (Bool)
  |0,_,_,_,_,_,_,_,_,_,_=>none
  |k+1,x1,x5,x6,x7,x10,x13,x14,x90,x117000,x117001=>if x90=true then (some false) else (if x14=true then ((impl_OwnersFit.f k x6 x13).bind fun bt130=>((impl_TravelOf.f k x5 x6 x7 x13).bind fun bt132=>(if bt130.2=true then (laws_FnSlots.j1 k x1 x10 bt132.2.2 (!bt130.1) x117000 x117001 bt132.1 bt132.2.1) else (laws_FnSlots.j1 k x1 x10 bt132.2.2 true x117000 x117001 bt132.1 bt132.2.1)))) else ((spec_DrawOwnersFit.f k x1).bind fun bt158=>((impl_OwnersFit.f k bt158.1 bt158.2).bind fun bt164=>((spec_OwnersFit.f k bt158.1 bt158.2).bind fun bt166=>(if (bt164.2 == bt166.2)=true then (some (bt164.1 == bt166.1)) else (some false))))))
def laws_FnSlots.j1:Nat→List Int→Bool→Bool→Bool→Int→Int→Int→Int→Option (Bool)
  |0,_,_,_,_,_,_,_,_=>none
  |k+1,x1,x10,x20,x111,x117000,x117001,x136000,x136001=>if x111=true then (some false) else (if x10=true then (laws_FnSlots.j2 k x1 x20 x117000 x117001 x136000 x136001) else (laws_FnSlots.j2 k x1 false x117000 x117001 x136000 x136001))
def laws_FnSlots.j2:Nat→List Int→Bool→Int→Int→Int→Int→Option (Bool)
  |0,_,_,_,_,_,_=>none
  |k+1,x1,x115,x117000,x117001,x136000,x136001=>if x115=true then ((impl_LessFrac.f k x117000 x117001 x136000 x136001).bind fun bt136=>(if bt136.2=true then (laws_FnSlots.j3 k x1 bt136.1) else (laws_FnSlots.j3 k x1 true))) else ((spec_DrawOwnersFit.f k x1).bind fun bt148=>((impl_OwnersFit.f k bt148.1 bt148.2).bind fun bt154=>((spec_OwnersFit.f k bt148.1 bt148.2).bind fun bt156=>(if (bt154.2 == bt156.2)=true then (some (bt154.1 == bt156.1)) else (some false)))))
def laws_FnSlots.j3:Nat→List Int→Bool→Option (Bool)
  |0,_,_=>none
  |k+1,x1,x126=>if x126=true then (some false) else ((spec_DrawOwnersFit.f k x1).bind fun bt138=>((impl_OwnersFit.f k bt138.1 bt138.2).bind fun bt144=>((spec_OwnersFit.f k bt138.1 bt138.2).bind fun bt146=>(if (bt144.2 == bt146.2)=true then (some (bt144.1 == bt146.1)) else (some false)))))
end
def laws_FnSlots.f (k:Nat) (l0:List Int) (l1:List Int):Option (Bool):=if (wrap64 ((l0.length:Int)+(l1.length:Int))) > 1048576 then (some true) else ((spec_DrawTravelOf.f k l0).bind fun bt101=>((impl_TravelOf.f k bt101.1 bt101.2.1 bt101.2.2.1 bt101.2.2.2).bind fun bt113=>((spec_TravelOf.f k bt101.1 bt101.2.1 bt101.2.2.1 bt101.2.2.2).bind fun bt117=>((impl_SlotsFor.f k bt101.1 bt101.2.1 bt101.2.2.1).bind fun bt121=>((spec_SlotsFor.f k bt101.1 bt101.2.1 bt101.2.2.1).bind fun bt125=>(if (bt113.2.2 != bt117.2.2)=true then (laws_FnSlots.j0 k l1 bt101.1 bt101.2.1 bt101.2.2.1 bt113.2.2 bt121.1 bt121.2 true bt113.1 bt113.2.1) else (if (!(bt113.1 == bt117.1) || (!(bt113.2.1 == bt117.2.1)))=true then (laws_FnSlots.j0 k l1 bt101.1 bt101.2.1 bt101.2.2.1 bt113.2.2 bt121.1 bt121.2 true bt113.1 bt113.2.1) else (if (bt121.2 != bt125.2)=true then (laws_FnSlots.j0 k l1 bt101.1 bt101.2.1 bt101.2.2.1 bt113.2.2 bt121.1 bt121.2 true bt113.1 bt113.2.1) else ((laws_sameInts.f k bt121.1 bt125.1).bind fun t129=>(laws_FnSlots.j0 k l1 bt101.1 bt101.2.1 bt101.2.2.1 bt113.2.2 bt121.1 bt121.2 (!t129) bt113.1 bt113.2.1))))))))))
set_option maxHeartbeats 8000000 in
set_option maxRecDepth 100000 in
theorem laws_FnSlots.calls (k:Nat) (A0:Option Addr) (c0:Nat) (l0:List Int) (A1:Option Addr) (c1:Nat) (l1:List Int) (r:Bool) (w:World) (hr0:Kd.C (Kd.int .u8) w A0 l0.length l0) (hc0:l0.length≤c0) (hr1:Kd.C (Kd.int .u8) w A1 l1.length l1) (hc1:l1.length≤c1) (h:laws_FnSlots.f k l0 l1=some r) :
    Calls Try.prog 5 #[.slice A0 l0.length c0,.slice A1 l1.length c1] w fun e w'=>e= .returned (.bool r)∧Below w.heap.size w w':=by
  have hu50:=Try.underlying50;have HR0:=aM hr0;have HC0:=aM hc0;clear hr0 hc0;have HR1:=aM hr1;have HC1:=aM hc1;clear hr1 hc1;have HB:=aM (Below.refl w.heap.size w);have H:(if (wrap64 ((l0.length:Int)+(l1.length:Int))) > 1048576 then (some true) else ((spec_DrawTravelOf.f k l0).bind fun bt101=>((impl_TravelOf.f k bt101.1 bt101.2.1 bt101.2.2.1 bt101.2.2.2).bind fun bt113=>((spec_TravelOf.f k bt101.1 bt101.2.1 bt101.2.2.1 bt101.2.2.2).bind fun bt117=>((impl_SlotsFor.f k bt101.1 bt101.2.1 bt101.2.2.1).bind fun bt121=>((spec_SlotsFor.f k bt101.1 bt101.2.1 bt101.2.2.1).bind fun bt125=>(if (bt113.2.2 != bt117.2.2)=true then (laws_FnSlots.j0 k l1 bt101.1 bt101.2.1 bt101.2.2.1 bt113.2.2 bt121.1 bt121.2 true bt113.1 bt113.2.1) else (if (!(bt113.1 == bt117.1) || (!(bt113.2.1 == bt117.2.1)))=true then (laws_FnSlots.j0 k l1 bt101.1 bt101.2.1 bt101.2.2.1 bt113.2.2 bt121.1 bt121.2 true bt113.1 bt113.2.1) else (if (bt121.2 != bt125.2)=true then (laws_FnSlots.j0 k l1 bt101.1 bt101.2.1 bt101.2.2.1 bt113.2.2 bt121.1 bt121.2 true bt113.1 bt113.2.1) else ((laws_sameInts.f k bt121.1 bt125.1).bind fun t129=>(laws_FnSlots.j0 k l1 bt101.1 bt101.2.1 bt101.2.2.1 bt113.2.2 bt121.1 bt121.2 (!t129) bt113.1 bt113.2.1)))))))))))=some r:=h;clear h;by_cases c3:(wrap64 ((l0.length:Int)+(l1.length:Int))) > 1048576
  ·rw [if_pos c3] at H;have c3b0:decide (1048576<(wrap64 ((l0.length:Int)+(l1.length:Int))))=true:=aL c3;clear c3
   as_aux_lemma=>
    obtain rfl:=Option.some.inj H;go_enter Try.func5,Try.ntmps5;go_wp2
    go_ret
    exact ⟨by first|rfl|(simp [errW_none,errW_some] <;> rfl)|(simp [*,errW_none,errW_some] <;> rfl),by repeat (with_reducible first|exact HB.out|apply Qc|apply Qa|apply Qb)⟩
  ·rw [if_neg c3] at H;have c3b0:decide (1048576<(wrap64 ((l0.length:Int)+(l1.length:Int))))=false:=aN c3;clear c3;replace H:=Option.bind_eq_some_iff.mp H;obtain ⟨⟨t101,t102,t103,t104⟩,A40,H⟩:=H;replace H:((impl_TravelOf.f k t101 t102 t103 t104).bind fun bt113=>((spec_TravelOf.f k t101 t102 t103 t104).bind fun bt117=>((impl_SlotsFor.f k t101 t102 t103).bind fun bt121=>((spec_SlotsFor.f k t101 t102 t103).bind fun bt125=>(if (bt113.2.2 != bt117.2.2)=true then (laws_FnSlots.j0 k l1 t101 t102 t103 bt113.2.2 bt121.1 bt121.2 true bt113.1 bt113.2.1) else (if (!(bt113.1 == bt117.1) || (!(bt113.2.1 == bt117.2.1)))=true then (laws_FnSlots.j0 k l1 t101 t102 t103 bt113.2.2 bt121.1 bt121.2 true bt113.1 bt113.2.1) else (if (bt121.2 != bt125.2)=true then (laws_FnSlots.j0 k l1 t101 t102 t103 bt113.2.2 bt121.1 bt121.2 true bt113.1 bt113.2.1) else ((laws_sameInts.f k bt121.1 bt125.1).bind fun t129=>(laws_FnSlots.j0 k l1 t101 t102 t103 bt113.2.2 bt121.1 bt121.2 (!t129) bt113.1 bt113.2.1)))))))))=some r:=H;have A4:=aM A40;clear A40;replace H:=Option.bind_eq_some_iff.mp H;obtain ⟨⟨t113,t114,t115⟩,A50,H⟩:=H;replace H:((spec_TravelOf.f k t101 t102 t103 t104).bind fun bt117=>((impl_SlotsFor.f k t101 t102 t103).bind fun bt121=>((spec_SlotsFor.f k t101 t102 t103).bind fun bt125=>(if (t115 != bt117.2.2)=true then (laws_FnSlots.j0 k l1 t101 t102 t103 t115 bt121.1 bt121.2 true t113 t114) else (if (!(t113 == bt117.1) || (!(t114 == bt117.2.1)))=true then (laws_FnSlots.j0 k l1 t101 t102 t103 t115 bt121.1 bt121.2 true t113 t114) else (if (bt121.2 != bt125.2)=true then (laws_FnSlots.j0 k l1 t101 t102 t103 t115 bt121.1 bt121.2 true t113 t114) else ((laws_sameInts.f k bt121.1 bt125.1).bind fun t129=>(laws_FnSlots.j0 k l1 t101 t102 t103 t115 bt121.1 bt121.2 (!t129) t113 t114))))))))=some r:=H;have A5:=aM A50;clear A50;replace H:=Option.bind_eq_some_iff.mp H;obtain ⟨⟨t117,t118,t119⟩,A60,H⟩:=H;replace H:((impl_SlotsFor.f k t101 t102 t103).bind fun bt121=>((spec_SlotsFor.f k t101 t102 t103).bind fun bt125=>(if (t115 != t119)=true then (laws_FnSlots.j0 k l1 t101 t102 t103 t115 bt121.1 bt121.2 true t113 t114) else (if (!(t113 == t117) || (!(t114 == t118)))=true then (laws_FnSlots.j0 k l1 t101 t102 t103 t115 bt121.1 bt121.2 true t113 t114) else (if (bt121.2 != bt125.2)=true then (laws_FnSlots.j0 k l1 t101 t102 t103 t115 bt121.1 bt121.2 true t113 t114) else ((laws_sameInts.f k bt121.1 bt125.1).bind fun t129=>(laws_FnSlots.j0 k l1 t101 t102 t103 t115 bt121.1 bt121.2 (!t129) t113 t114)))))))=some r:=H;have A6:=aM A60;clear A60;replace H:=Option.bind_eq_some_iff.mp H;obtain ⟨⟨t121,t122⟩,A70,H⟩:=H;replace H:((spec_SlotsFor.f k t101 t102 t103).bind fun bt125=>(if (t115 != t119)=true then (laws_FnSlots.j0 k l1 t101 t102 t103 t115 t121 t122 true t113 t114) else (if (!(t113 == t117) || (!(t114 == t118)))=true then (laws_FnSlots.j0 k l1 t101 t102 t103 t115 t121 t122 true t113 t114) else (if (t122 != bt125.2)=true then (laws_FnSlots.j0 k l1 t101 t102 t103 t115 t121 t122 true t113 t114) else ((laws_sameInts.f k t121 bt125.1).bind fun t129=>(laws_FnSlots.j0 k l1 t101 t102 t103 t115 t121 t122 (!t129) t113 t114))))))=some r:=H;have A7:=aM A70;clear A70;replace H:=Option.bind_eq_some_iff.mp H;obtain ⟨⟨t125,t126⟩,A80,H⟩:=H;replace H:(if (t115 != t119)=true then (laws_FnSlots.j0 k l1 t101 t102 t103 t115 t121 t122 true t113 t114) else (if (!(t113 == t117) || (!(t114 == t118)))=true then (laws_FnSlots.j0 k l1 t101 t102 t103 t115 t121 t122 true t113 t114) else (if (t122 != t126)=true then (laws_FnSlots.j0 k l1 t101 t102 t103 t115 t121 t122 true t113 t114) else ((laws_sameInts.f k t121 t125).bind fun t129=>(laws_FnSlots.j0 k l1 t101 t102 t103 t115 t121 t122 (!t129) t113 t114)))))=some r:=H;have A8:=aM A80;clear A80;have HC9:=aM H;clear H;go_enter Try.func5,Try.ntmps5
   go_upto_region 8 with (first|((with_reducible refine Qp (f:=41) rfl ?_);refine goesL_ (some 37) rfl rfl Try.func41 (by kernel_rfl) rfl #[.slice A0 l0.length c0] rfl (by (try simp only [aD,aE,aF]);first|done|rfl|(simp only [aG,aH];rfl)) ?_;(with_reducible refine (spec_DrawTravelOf.calls k _ _ l0 t101 t102 t103 t104 _ ?side1 ?side2 A4.out).mono ?_);(case side1=>repeat first|exact HR0.out|(with_reducible first|refine Kd.Qq ?_ _|refine Kd.Qr ?_ _|refine Kd.C_drew ?_));(case side2=>exact HC0.out);rintro e w10 ⟨v105,v107,v109,v111,rfl,ho0,ho1,ho2,ho3,hb⟩;refine ⟨_,rfl,?_⟩;have n0_:=aM (Kd.R_lower ho0 (Qj (by repeat (with_reducible first|exact HB.out|apply Qc|apply Qa|apply Qb))));have n1_:=aM (Kd.R_lower ho1 (Qj (by repeat (with_reducible first|exact HB.out|apply Qc|apply Qa|apply Qb))));have n2_:=aM (Kd.R_lower ho2 (Qj (by repeat (with_reducible first|exact HB.out|apply Qc|apply Qa|apply Qb))));have n3_:=aM (Kd.R_lower ho3 (Qj (by repeat (with_reducible first|exact HB.out|apply Qc|apply Qa|apply Qb))));have n4_:=aM (Ql (by repeat (with_reducible first|exact HB.out|apply Qc|apply Qa|apply Qb)) hb);clear HB;have HO106:=n0_;have HO108:=n1_;have HO110:=n2_;have HO112:=n3_;have HB:=n4_;clear n0_ n1_ n2_ n3_ n4_;(try clear hb);(try clear hb2);(try clear hk);(try clear hi);(try clear ho0);(try clear ho1);(try clear ho2);(try clear ho3);obtain ⟨Ao11,co11,eo11⟩:=Kd.R_slice HO106.out;subst eo11;obtain ⟨Ao12,co12,eo12⟩:=Kd.R_slice HO108.out;subst eo12;obtain ⟨Ao13,co13,eo13⟩:=Kd.R_slice HO110.out;subst eo13;obtain ⟨Ao14,co14,eo14⟩:=Kd.R_slice HO112.out;subst eo14)|((with_reducible refine Qp (f:=42) rfl ?_);refine goesL_ (some 47) rfl rfl Try.func42 (by kernel_rfl) rfl #[.slice Ao11 t101.length co11,.slice Ao12 t102.length co12,.slice Ao13 t103.length co13,.slice Ao14 t104.length co14] rfl (by (try simp only [aD,aE,aF]);first|done|rfl|(simp only [aG,aH];rfl)) ?_;(with_reducible refine (impl_TravelOf.calls k _ _ t101 _ _ t102 _ _ t103 _ _ t104 t113 t114 t115 _ ?side1 ?side2 ?side3 ?side4 ?side5 ?side6 ?side7 ?side8 A5.out).mono ?_);(case side1=>repeat first|exact (Kd.Qo HO106.out).2.2|(with_reducible first|refine Kd.Qq ?_ _|refine Kd.Qr ?_ _|refine Kd.C_drew ?_));(case side2=>exact (Kd.Qo HO106.out).2.1);(case side3=>repeat first|exact (Kd.Qo HO108.out).2.2|(with_reducible first|refine Kd.Qq ?_ _|refine Kd.Qr ?_ _|refine Kd.C_drew ?_));(case side4=>exact (Kd.Qo HO108.out).2.1);(case side5=>repeat first|exact (Kd.Qo HO110.out).2.2|(with_reducible first|refine Kd.Qq ?_ _|refine Kd.Qr ?_ _|refine Kd.C_drew ?_));(case side6=>exact (Kd.Qo HO110.out).2.1);(case side7=>repeat first|exact (Kd.Qo HO112.out).2.2|(with_reducible first|refine Kd.Qq ?_ _|refine Kd.Qr ?_ _|refine Kd.C_drew ?_));(case side8=>exact (Kd.Qo HO112.out).2.1);rintro e w15 ⟨rfl,hb⟩;refine ⟨_,rfl,?_⟩;have n0_:=aM (Kd.R_below (by (with_reducible repeat first|apply Kd.Qh|apply Kd.Qi|apply Kd.R_drew);exact HO106.out) hb);have n1_:=aM (Kd.R_below (by (with_reducible repeat first|apply Kd.Qh|apply Kd.Qi|apply Kd.R_drew);exact HO108.out) hb);have n2_:=aM (Kd.R_below (by (with_reducible repeat first|apply Kd.Qh|apply Kd.Qi|apply Kd.R_drew);exact HO110.out) hb);have n3_:=aM (Kd.R_below (by (with_reducible repeat first|apply Kd.Qh|apply Kd.Qi|apply Kd.R_drew);exact HO112.out) hb);have n4_:=aM (Ql (by repeat (with_reducible first|exact HB.out|apply Qc|apply Qa|apply Qb)) hb);clear HO106 HO108 HO110 HO112 HB;have HO106:=n0_;have HO108:=n1_;have HO110:=n2_;have HO112:=n3_;have HB:=n4_;clear n0_ n1_ n2_ n3_ n4_ hb)|((with_reducible refine Qs (N:=9) rfl ?_);refine Qt ?hg (N:=9) ?hd (cs:=#[.int .i64 0,.int .i64 0]) (t:=50) ?hr ?_;(case hd=>rfl);(case hg=>rfl);(case hr=>first|(go_simp;done)|(go_simp;rfl));intro gb116 hg w16 hbox hb;have n0_:=aM (Kd.R_below (by (with_reducible repeat first|apply Kd.Qh|apply Kd.Qi|apply Kd.R_drew);exact HO106.out) hb);have n1_:=aM (Kd.R_below (by (with_reducible repeat first|apply Kd.Qh|apply Kd.Qi|apply Kd.R_drew);exact HO108.out) hb);have n2_:=aM (Kd.R_below (by (with_reducible repeat first|apply Kd.Qh|apply Kd.Qi|apply Kd.R_drew);exact HO110.out) hb);have n3_:=aM (Kd.R_below (by (with_reducible repeat first|apply Kd.Qh|apply Kd.Qi|apply Kd.R_drew);exact HO112.out) hb);have n4_:=aM (Ql (by repeat (with_reducible first|exact HB.out|apply Qc|apply Qa|apply Qb)) hb);have n5_:=aM (hbox);have n6_:=aM ((by rw [hg];exact (Qj (by repeat (with_reducible first|exact HB.out|apply Qc|apply Qa|apply Qb))):w.heap.size≤gb116));have n7_:=aM ((by rw [hg];exact (Qj (by repeat (with_reducible first|exact HB.out|apply Qc|apply Qa|apply Qb))):w.heap.size≤gb116));clear HO106 HO108 HO110 HO112 HB;have HO106:=n0_;have HO108:=n1_;have HO110:=n2_;have HO112:=n3_;have HB:=n4_;have BK116:=n5_;have GW116:=n6_;have GE116:=n7_;clear n0_ n1_ n2_ n3_ n4_ n5_ n6_ n7_ hb hbox hg;have hcz17_0:w16.cell? ⟨gb116,0,none⟩=some (.int .i64 0):=(Qn BK116.out 0).trans rfl;have hcz17_1:w16.cell? ⟨gb116,1,none⟩=some (.int .i64 0):=(Qn BK116.out 1).trans rfl;have hfz17_0:=Qk BK116.out 0;have hfz17_1:=Qk BK116.out 1)|((with_reducible refine Qp (f:=43) rfl ?_);refine goesL_ (some 55) rfl rfl Try.func43 (by kernel_rfl) rfl #[.slice Ao11 t101.length co11,.slice Ao12 t102.length co12,.slice Ao13 t103.length co13,.slice Ao14 t104.length co14] rfl (by (try simp only [aD,aE,aF]);first|done|rfl|(simp only [aG,aH];rfl)) ?_;(with_reducible refine (spec_TravelOf.calls k _ _ t101 _ _ t102 _ _ t103 _ _ t104 t117 t118 t119 _ ?side1 ?side2 ?side3 ?side4 ?side5 ?side6 ?side7 ?side8 A6.out).mono ?_);(case side1=>refine (Kd.Qo (e:=3) (base:=w.heap.size) (ok:=fun k_=>(some k_≠(.slice Ao12 t102.length co12:Value).ownBlock∧(some k_≠(.slice Ao13 t103.length co13:Value).ownBlock∧some k_≠(.slice Ao14 t104.length co14:Value).ownBlock))) (n:=t101.length) (c:=co11) ?_).2.2;exact (by (with_reducible repeat first|apply Kd.Qh|apply Kd.Qi|apply Kd.R_drew);exact (Kd.R_mono (Kd.R_far (p:=⟨gb116,1,none⟩) (Kd.R_far (p:=⟨gb116,0,none⟩) (Kd.R_types HO106.out BK116.out (by decide)) (fun _ hk=>hk.2) (.int .i64 t113)) (fun _ hk=>hk.2) (.int .i64 t114)) (fun _ h_=>h_.1))));(case side2=>exact (Kd.Qo HO106.out).2.1);(case side3=>refine (Kd.Qo (e:=3) (base:=w.heap.size) (ok:=fun k_=>(some k_≠(.slice Ao11 t101.length co11:Value).ownBlock∧(some k_≠(.slice Ao13 t103.length co13:Value).ownBlock∧some k_≠(.slice Ao14 t104.length co14:Value).ownBlock))) (n:=t102.length) (c:=co12) ?_).2.2;exact (by (with_reducible repeat first|apply Kd.Qh|apply Kd.Qi|apply Kd.R_drew);exact (Kd.R_mono (Kd.R_far (p:=⟨gb116,1,none⟩) (Kd.R_far (p:=⟨gb116,0,none⟩) (Kd.R_types HO108.out BK116.out (by decide)) (fun _ hk=>hk.2) (.int .i64 t113)) (fun _ hk=>hk.2) (.int .i64 t114)) (fun _ h_=>h_.1))));(case side4=>exact (Kd.Qo HO108.out).2.1);(case side5=>refine (Kd.Qo (e:=3) (base:=w.heap.size) (ok:=fun k_=>(some k_≠(.slice Ao11 t101.length co11:Value).ownBlock∧(some k_≠(.slice Ao12 t102.length co12:Value).ownBlock∧some k_≠(.slice Ao14 t104.length co14:Value).ownBlock))) (n:=t103.length) (c:=co13) ?_).2.2;exact (by (with_reducible repeat first|apply Kd.Qh|apply Kd.Qi|apply Kd.R_drew);exact (Kd.R_mono (Kd.R_far (p:=⟨gb116,1,none⟩) (Kd.R_far (p:=⟨gb116,0,none⟩) (Kd.R_types HO110.out BK116.out (by decide)) (fun _ hk=>hk.2) (.int .i64 t113)) (fun _ hk=>hk.2) (.int .i64 t114)) (fun _ h_=>h_.1))));(case side6=>exact (Kd.Qo HO110.out).2.1);(case side7=>refine (Kd.Qo (e:=3) (base:=w.heap.size) (ok:=fun k_=>(some k_≠(.slice Ao11 t101.length co11:Value).ownBlock∧(some k_≠(.slice Ao12 t102.length co12:Value).ownBlock∧some k_≠(.slice Ao13 t103.length co13:Value).ownBlock))) (n:=t104.length) (c:=co14) ?_).2.2;exact (by (with_reducible repeat first|apply Kd.Qh|apply Kd.Qi|apply Kd.R_drew);exact (Kd.R_mono (Kd.R_far (p:=⟨gb116,1,none⟩) (Kd.R_far (p:=⟨gb116,0,none⟩) (Kd.R_types HO112.out BK116.out (by decide)) (fun _ hk=>hk.2) (.int .i64 t113)) (fun _ hk=>hk.2) (.int .i64 t114)) (fun _ h_=>h_.1))));(case side8=>exact (Kd.Qo HO112.out).2.1);rintro e w18 ⟨rfl,hb⟩;refine ⟨_,rfl,?_⟩;have n0_:=aM (Kd.R_below (by (with_reducible repeat first|apply Kd.Qh|apply Kd.Qi|apply Kd.R_drew);exact (Kd.R_mono (Kd.R_far (p:=⟨gb116,1,none⟩) (Kd.R_far (p:=⟨gb116,0,none⟩) (Kd.R_types HO106.out BK116.out (by decide)) (fun _ hk=>hk.2) (.int .i64 t113)) (fun _ hk=>hk.2) (.int .i64 t114)) (fun _ h_=>h_.1))) hb);have n1_:=aM (Kd.R_below (by (with_reducible repeat first|apply Kd.Qh|apply Kd.Qi|apply Kd.R_drew);exact (Kd.R_mono (Kd.R_far (p:=⟨gb116,1,none⟩) (Kd.R_far (p:=⟨gb116,0,none⟩) (Kd.R_types HO108.out BK116.out (by decide)) (fun _ hk=>hk.2) (.int .i64 t113)) (fun _ hk=>hk.2) (.int .i64 t114)) (fun _ h_=>h_.1))) hb);have n2_:=aM (Kd.R_below (by (with_reducible repeat first|apply Kd.Qh|apply Kd.Qi|apply Kd.R_drew);exact (Kd.R_mono (Kd.R_far (p:=⟨gb116,1,none⟩) (Kd.R_far (p:=⟨gb116,0,none⟩) (Kd.R_types HO110.out BK116.out (by decide)) (fun _ hk=>hk.2) (.int .i64 t113)) (fun _ hk=>hk.2) (.int .i64 t114)) (fun _ h_=>h_.1))) hb);have n3_:=aM (Kd.R_below (by (with_reducible repeat first|apply Kd.Qh|apply Kd.Qi|apply Kd.R_drew);exact (Kd.R_mono (Kd.R_far (p:=⟨gb116,1,none⟩) (Kd.R_far (p:=⟨gb116,0,none⟩) (Kd.R_types HO112.out BK116.out (by decide)) (fun _ hk=>hk.2) (.int .i64 t113)) (fun _ hk=>hk.2) (.int .i64 t114)) (fun _ h_=>h_.1))) hb);have n4_:=aM (Qm (g:=gb116) (o:= .cells #[.int .i64 t113,.int .i64 t114] 50 (0,0)) (by (with_reducible repeat first|apply Qf|apply Qg|apply Qe);refine blk_put (cs:=#[.int .i64 t113,.int .i64 0]) ?_ 1 _ rfl;(with_reducible repeat first|apply Qf|apply Qg|apply Qe);refine blk_put (cs:=#[.int .i64 0,.int .i64 0]) ?_ 0 _ rfl;(with_reducible repeat first|apply Qf|apply Qg|apply Qe);exact BK116.out) hb);have n5_:=aM (Ql (by repeat first|(with_reducible first|exact HB.out|apply Qc|apply Qa|apply Qb|refine Qd ?_ GE116.out)|exact HB.out) hb);clear HO106 HO108 HO110 HO112 BK116 HB;have HO106:=n0_;have HO108:=n1_;have HO110:=n2_;have HO112:=n3_;have BK116:=n4_;have HB:=n5_;clear n0_ n1_ n2_ n3_ n4_ n5_ hb)|((with_reducible refine Qs (N:=11) rfl ?_);refine Qt ?hg (N:=11) ?hd (cs:=#[.int .i64 0,.int .i64 0]) (t:=50) ?hr ?_;(case hd=>rfl);(case hg=>rfl);(case hr=>first|(go_simp;done)|(go_simp;rfl));intro gb120 hg w19 hbox hb;have n0_:=aM (Kd.R_below (by (with_reducible repeat first|apply Kd.Qh|apply Kd.Qi|apply Kd.R_drew);exact HO106.out) hb);have n1_:=aM (Kd.R_below (by (with_reducible repeat first|apply Kd.Qh|apply Kd.Qi|apply Kd.R_drew);exact HO108.out) hb);have n2_:=aM (Kd.R_below (by (with_reducible repeat first|apply Kd.Qh|apply Kd.Qi|apply Kd.R_drew);exact HO110.out) hb);have n3_:=aM (Kd.R_below (by (with_reducible repeat first|apply Kd.Qh|apply Kd.Qi|apply Kd.R_drew);exact HO112.out) hb);have n4_:=aM (Qm (g:=gb116) (o:= .cells #[.int .i64 t113,.int .i64 t114] 50 (0,0)) (by (with_reducible repeat first|apply Qf|apply Qg|apply Qe);exact BK116.out) hb);have n5_:=aM (Ql (by repeat first|(with_reducible first|exact HB.out|apply Qc|apply Qa|apply Qb|refine Qd ?_ GE116.out)|exact HB.out) hb);have n6_:=aM (hbox);have n7_:=aM ((by rw [hg];exact (Qj (by repeat first|(with_reducible first|exact HB.out|apply Qc|apply Qa|apply Qb|refine Qd ?_ GE116.out)|exact HB.out)):w.heap.size≤gb120));have n8_:=aM ((by rw [hg];exact (Qj (by repeat first|(with_reducible first|exact HB.out|apply Qc|apply Qa|apply Qb|refine Qd ?_ GE116.out)|exact HB.out)):w.heap.size≤gb120));have n9_:=aM ((by rw [hg];exact Nat.ne_of_lt (blk_lt (g:=gb116) (o:= .cells #[.int .i64 t113,.int .i64 t114] 50 (0,0)) (by (with_reducible repeat first|apply Qf|apply Qg|apply Qe);exact BK116.out)):gb116≠gb120));have n10_:=aM ((by rw [hg];exact Nat.ne_of_gt (blk_lt (g:=gb116) (o:= .cells #[.int .i64 t113,.int .i64 t114] 50 (0,0)) (by (with_reducible repeat first|apply Qf|apply Qg|apply Qe);exact BK116.out)):gb120≠gb116));clear HO106 HO108 HO110 HO112 BK116 HB;have HO106:=n0_;have HO108:=n1_;have HO110:=n2_;have HO112:=n3_;have BK116:=n4_;have HB:=n5_;have BK120:=n6_;have GW120:=n7_;have GE120:=n8_;have NB116_120:=n9_;have NB120_116:=n10_;clear n0_ n1_ n2_ n3_ n4_ n5_ n6_ n7_ n8_ n9_ n10_ hb hbox hg;have hnb20:=NB120_116.out;have hnc20:=NB116_120.out;have hcz21_0:w19.cell? ⟨gb120,0,none⟩=some (.int .i64 0):=(Qn BK120.out 0).trans rfl;have hcz21_1:w19.cell? ⟨gb120,1,none⟩=some (.int .i64 0):=(Qn BK120.out 1).trans rfl;have hfz21_0:=Qk BK120.out 0;have hfz21_1:=Qk BK120.out 1)|((with_reducible refine Qp (f:=44) rfl ?_);refine goesL_ (some 62) rfl rfl Try.func44 (by kernel_rfl) rfl #[.slice Ao11 t101.length co11,.slice Ao12 t102.length co12,.slice Ao13 t103.length co13] rfl (by (try simp only [aD,aE,aF]);first|done|rfl|(simp only [aG,aH];rfl)) ?_;(with_reducible refine (impl_SlotsFor.calls k _ _ t101 _ _ t102 _ _ t103 t121 t122 _ ?side1 ?side2 ?side3 ?side4 ?side5 ?side6 A7.out).mono ?_);(case side1=>refine (Kd.Qo (e:=3) (base:=w.heap.size) (ok:=fun k_=>(some k_≠(.slice Ao12 t102.length co12:Value).ownBlock∧(some k_≠(.slice Ao13 t103.length co13:Value).ownBlock∧some k_≠(.slice Ao14 t104.length co14:Value).ownBlock))) (n:=t101.length) (c:=co11) ?_).2.2;exact (by (with_reducible repeat first|apply Kd.Qh|apply Kd.Qi|apply Kd.R_drew);exact (Kd.R_mono (Kd.R_far (p:=⟨gb120,1,none⟩) (Kd.R_far (p:=⟨gb120,0,none⟩) (Kd.R_types HO106.out BK120.out (by decide)) (fun _ hk=>hk.2) (.int .i64 t117)) (fun _ hk=>hk.2) (.int .i64 t118)) (fun _ h_=>h_.1))));(case side2=>exact (Kd.Qo HO106.out).2.1);(case side3=>refine (Kd.Qo (e:=3) (base:=w.heap.size) (ok:=fun k_=>(some k_≠(.slice Ao11 t101.length co11:Value).ownBlock∧(some k_≠(.slice Ao13 t103.length co13:Value).ownBlock∧some k_≠(.slice Ao14 t104.length co14:Value).ownBlock))) (n:=t102.length) (c:=co12) ?_).2.2;exact (by (with_reducible repeat first|apply Kd.Qh|apply Kd.Qi|apply Kd.R_drew);exact (Kd.R_mono (Kd.R_far (p:=⟨gb120,1,none⟩) (Kd.R_far (p:=⟨gb120,0,none⟩) (Kd.R_types HO108.out BK120.out (by decide)) (fun _ hk=>hk.2) (.int .i64 t117)) (fun _ hk=>hk.2) (.int .i64 t118)) (fun _ h_=>h_.1))));(case side4=>exact (Kd.Qo HO108.out).2.1);(case side5=>refine (Kd.Qo (e:=3) (base:=w.heap.size) (ok:=fun k_=>(some k_≠(.slice Ao11 t101.length co11:Value).ownBlock∧(some k_≠(.slice Ao12 t102.length co12:Value).ownBlock∧some k_≠(.slice Ao14 t104.length co14:Value).ownBlock))) (n:=t103.length) (c:=co13) ?_).2.2;exact (by (with_reducible repeat first|apply Kd.Qh|apply Kd.Qi|apply Kd.R_drew);exact (Kd.R_mono (Kd.R_far (p:=⟨gb120,1,none⟩) (Kd.R_far (p:=⟨gb120,0,none⟩) (Kd.R_types HO110.out BK120.out (by decide)) (fun _ hk=>hk.2) (.int .i64 t117)) (fun _ hk=>hk.2) (.int .i64 t118)) (fun _ h_=>h_.1))));(case side6=>exact (Kd.Qo HO110.out).2.1);rintro e w22 ⟨v123,rfl,ho0,hb⟩;refine ⟨_,rfl,?_⟩;have n0_:=aM (Kd.R_elder' (by (with_reducible repeat first|apply Kd.Qh|apply Kd.Qi|apply Kd.R_drew);exact (Kd.R_mono (Kd.R_far (p:=⟨gb120,1,none⟩) (Kd.R_far (p:=⟨gb120,0,none⟩) (Kd.R_types HO106.out BK120.out (by decide)) (fun _ hk=>hk.2) (.int .i64 t117)) (fun _ hk=>hk.2) (.int .i64 t118)) (fun _ h_=>h_.1))) (Kd.R_base ho0) hb);have n1_:=aM (Kd.R_elder' (by (with_reducible repeat first|apply Kd.Qh|apply Kd.Qi|apply Kd.R_drew);exact (Kd.R_mono (Kd.R_far (p:=⟨gb120,1,none⟩) (Kd.R_far (p:=⟨gb120,0,none⟩) (Kd.R_types HO108.out BK120.out (by decide)) (fun _ hk=>hk.2) (.int .i64 t117)) (fun _ hk=>hk.2) (.int .i64 t118)) (fun _ h_=>h_.1))) (Kd.R_base ho0) hb);have n2_:=aM (Kd.R_elder' (by (with_reducible repeat first|apply Kd.Qh|apply Kd.Qi|apply Kd.R_drew);exact (Kd.R_mono (Kd.R_far (p:=⟨gb120,1,none⟩) (Kd.R_far (p:=⟨gb120,0,none⟩) (Kd.R_types HO110.out BK120.out (by decide)) (fun _ hk=>hk.2) (.int .i64 t117)) (fun _ hk=>hk.2) (.int .i64 t118)) (fun _ h_=>h_.1))) (Kd.R_base ho0) hb);have n3_:=aM (Kd.R_elder' (by (with_reducible repeat first|apply Kd.Qh|apply Kd.Qi|apply Kd.R_drew);exact (Kd.R_mono (Kd.R_far (p:=⟨gb120,1,none⟩) (Kd.R_far (p:=⟨gb120,0,none⟩) (Kd.R_types HO112.out BK120.out (by decide)) (fun _ hk=>hk.2) (.int .i64 t117)) (fun _ hk=>hk.2) (.int .i64 t118)) (fun _ h_=>h_.1))) (Kd.R_base ho0) hb);have n4_:=aM (Kd.R_lower (Kd.R_new' (Kd.R_new' (Kd.R_new' (Kd.R_new' ho0 (Kd.R_lt (by (with_reducible repeat first|apply Kd.Qh|apply Kd.Qi|apply Kd.R_drew);exact (Kd.R_mono (Kd.R_far (p:=⟨gb120,1,none⟩) (Kd.R_far (p:=⟨gb120,0,none⟩) (Kd.R_types HO106.out BK120.out (by decide)) (fun _ hk=>hk.2) (.int .i64 t117)) (fun _ hk=>hk.2) (.int .i64 t118)) (fun _ h_=>h_.1))))) (Kd.R_lt (by (with_reducible repeat first|apply Kd.Qh|apply Kd.Qi|apply Kd.R_drew);exact (Kd.R_mono (Kd.R_far (p:=⟨gb120,1,none⟩) (Kd.R_far (p:=⟨gb120,0,none⟩) (Kd.R_types HO108.out BK120.out (by decide)) (fun _ hk=>hk.2) (.int .i64 t117)) (fun _ hk=>hk.2) (.int .i64 t118)) (fun _ h_=>h_.1))))) (Kd.R_lt (by (with_reducible repeat first|apply Kd.Qh|apply Kd.Qi|apply Kd.R_drew);exact (Kd.R_mono (Kd.R_far (p:=⟨gb120,1,none⟩) (Kd.R_far (p:=⟨gb120,0,none⟩) (Kd.R_types HO110.out BK120.out (by decide)) (fun _ hk=>hk.2) (.int .i64 t117)) (fun _ hk=>hk.2) (.int .i64 t118)) (fun _ h_=>h_.1))))) (Kd.R_lt (by (with_reducible repeat first|apply Kd.Qh|apply Kd.Qi|apply Kd.R_drew);exact (Kd.R_mono (Kd.R_far (p:=⟨gb120,1,none⟩) (Kd.R_far (p:=⟨gb120,0,none⟩) (Kd.R_types HO112.out BK120.out (by decide)) (fun _ hk=>hk.2) (.int .i64 t117)) (fun _ hk=>hk.2) (.int .i64 t118)) (fun _ h_=>h_.1))))) (Qj (by repeat first|(with_reducible first|exact HB.out|apply Qc|apply Qa|apply Qb|refine Qd ?_ GE116.out|refine Qd ?_ GE120.out)|exact HB.out)));have n5_:=aM (Qm (g:=gb116) (o:= .cells #[.int .i64 t113,.int .i64 t114] 50 (0,0)) (by (with_reducible repeat first|apply Qf|apply Qg|apply Qe);refine blk_far ?_ NB116_120.out _;(with_reducible repeat first|apply Qf|apply Qg|apply Qe);refine blk_far ?_ NB116_120.out _;(with_reducible repeat first|apply Qf|apply Qg|apply Qe);exact BK116.out) hb);have n6_:=aM (Qm (g:=gb120) (o:= .cells #[.int .i64 t117,.int .i64 t118] 50 (0,0)) (by (with_reducible repeat first|apply Qf|apply Qg|apply Qe);refine blk_put (cs:=#[.int .i64 t117,.int .i64 0]) ?_ 1 _ rfl;(with_reducible repeat first|apply Qf|apply Qg|apply Qe);refine blk_put (cs:=#[.int .i64 0,.int .i64 0]) ?_ 0 _ rfl;(with_reducible repeat first|apply Qf|apply Qg|apply Qe);exact BK120.out) hb);have n7_:=aM (Ql (by repeat first|(with_reducible first|exact HB.out|apply Qc|apply Qa|apply Qb|refine Qd ?_ GE116.out|refine Qd ?_ GE120.out)|exact HB.out) hb);clear HO106 HO108 HO110 HO112 BK116 BK120 HB;have HO106:=n0_;have HO108:=n1_;have HO110:=n2_;have HO112:=n3_;have HO124:=n4_;have BK116:=n5_;have BK120:=n6_;have HB:=n7_;clear n0_ n1_ n2_ n3_ n4_ n5_ n6_ n7_ hb ho0)|((with_reducible refine Qp (f:=45) rfl ?_);refine goesL_ (some 69) rfl rfl Try.func45 (by kernel_rfl) rfl #[.slice Ao11 t101.length co11,.slice Ao12 t102.length co12,.slice Ao13 t103.length co13] rfl (by (try simp only [aD,aE,aF]);first|done|rfl|(simp only [aG,aH];rfl)) ?_;(with_reducible refine (spec_SlotsFor.calls k _ _ t101 _ _ t102 _ _ t103 t125 t126 _ ?side1 ?side2 ?side3 ?side4 ?side5 ?side6 A8.out).mono ?_);(case side1=>repeat first|exact (Kd.Qo HO106.out).2.2|(with_reducible first|refine Kd.Qq ?_ _|refine Kd.Qr ?_ _|refine Kd.C_drew ?_));(case side2=>exact (Kd.Qo HO106.out).2.1);(case side3=>repeat first|exact (Kd.Qo HO108.out).2.2|(with_reducible first|refine Kd.Qq ?_ _|refine Kd.Qr ?_ _|refine Kd.C_drew ?_));(case side4=>exact (Kd.Qo HO108.out).2.1);(case side5=>repeat first|exact (Kd.Qo HO110.out).2.2|(with_reducible first|refine Kd.Qq ?_ _|refine Kd.Qr ?_ _|refine Kd.C_drew ?_));(case side6=>exact (Kd.Qo HO110.out).2.1);rintro e w23 ⟨v127,rfl,ho0,hb⟩;refine ⟨_,rfl,?_⟩;have n0_:=aM (Kd.R_elder' (by (with_reducible repeat first|apply Kd.Qh|apply Kd.Qi|apply Kd.R_drew);exact HO106.out) (Kd.R_base ho0) hb);have n1_:=aM (Kd.R_elder' (by (with_reducible repeat first|apply Kd.Qh|apply Kd.Qi|apply Kd.R_drew);exact HO108.out) (Kd.R_base ho0) hb);have n2_:=aM (Kd.R_elder' (by (with_reducible repeat first|apply Kd.Qh|apply Kd.Qi|apply Kd.R_drew);exact HO110.out) (Kd.R_base ho0) hb);have n3_:=aM (Kd.R_elder' (by (with_reducible repeat first|apply Kd.Qh|apply Kd.Qi|apply Kd.R_drew);exact HO112.out) (Kd.R_base ho0) hb);have n4_:=aM (Kd.R_elder' (by (with_reducible repeat first|apply Kd.Qh|apply Kd.Qi|apply Kd.R_drew);exact HO124.out) (Kd.R_base ho0) hb);have n5_:=aM (Kd.R_lower (Kd.R_new' (Kd.R_new' (Kd.R_new' (Kd.R_new' (Kd.R_new' ho0 (Kd.R_lt (by (with_reducible repeat first|apply Kd.Qh|apply Kd.Qi|apply Kd.R_drew);exact HO106.out))) (Kd.R_lt (by (with_reducible repeat first|apply Kd.Qh|apply Kd.Qi|apply Kd.R_drew);exact HO108.out))) (Kd.R_lt (by (with_reducible repeat first|apply Kd.Qh|apply Kd.Qi|apply Kd.R_drew);exact HO110.out))) (Kd.R_lt (by (with_reducible repeat first|apply Kd.Qh|apply Kd.Qi|apply Kd.R_drew);exact HO112.out))) (Kd.R_lt (by (with_reducible repeat first|apply Kd.Qh|apply Kd.Qi|apply Kd.R_drew);exact HO124.out))) (Qj (by repeat first|(with_reducible first|exact HB.out|apply Qc|apply Qa|apply Qb|refine Qd ?_ GE116.out|refine Qd ?_ GE120.out)|exact HB.out)));have n6_:=aM (Qm (g:=gb116) (o:= .cells #[.int .i64 t113,.int .i64 t114] 50 (0,0)) (by (with_reducible repeat first|apply Qf|apply Qg|apply Qe);exact BK116.out) hb);have n7_:=aM (Qm (g:=gb120) (o:= .cells #[.int .i64 t117,.int .i64 t118] 50 (0,0)) (by (with_reducible repeat first|apply Qf|apply Qg|apply Qe);exact BK120.out) hb);have n8_:=aM (Ql (by repeat first|(with_reducible first|exact HB.out|apply Qc|apply Qa|apply Qb|refine Qd ?_ GE116.out|refine Qd ?_ GE120.out)|exact HB.out) hb);clear HO106 HO108 HO110 HO112 HO124 BK116 BK120 HB;have HO106:=n0_;have HO108:=n1_;have HO110:=n2_;have HO112:=n3_;have HO124:=n4_;have HO128:=n5_;have BK116:=n6_;have BK120:=n7_;have HB:=n8_;clear n0_ n1_ n2_ n3_ n4_ n5_ n6_ n7_ n8_ hb ho0))
   (try simp only [Act.put,aA,aB,aC])
   go_cut [90] (fun v90 wc=>∃ (kq:Nat) (x90_8:Bool),v90= .bool x90_8∧Aside0 (laws_FnSlots.j0 kq l1 t101 t102 t103 t115 t121 t122 x90_8 t113 t114=some r)∧Aside0 (kq≤k)∧Aside0 (Kd.R (Kd.int .i64) 3 wc w.heap.size (fun k_=>some k_≠((.slice Ao12 t102.length co12):Value).ownBlock∧some k_≠((.slice Ao13 t103.length co13):Value).ownBlock∧some k_≠(v123:Value).ownBlock) (.slice Ao11 t101.length co11) t101)∧Aside0 (Kd.R (Kd.int .i64) 3 wc w.heap.size (fun k_=>some k_≠((.slice Ao11 t101.length co11):Value).ownBlock∧some k_≠((.slice Ao13 t103.length co13):Value).ownBlock∧some k_≠(v123:Value).ownBlock) (.slice Ao12 t102.length co12) t102)∧Aside0 (Kd.R (Kd.int .i64) 3 wc w.heap.size (fun k_=>some k_≠((.slice Ao11 t101.length co11):Value).ownBlock∧some k_≠((.slice Ao12 t102.length co12):Value).ownBlock∧some k_≠(v123:Value).ownBlock) (.slice Ao13 t103.length co13) t103)∧Aside0 (Kd.R (Kd.int .i64) 3 wc w.heap.size (fun k_=>some k_≠((.slice Ao11 t101.length co11):Value).ownBlock∧some k_≠((.slice Ao12 t102.length co12):Value).ownBlock∧some k_≠((.slice Ao13 t103.length co13):Value).ownBlock) v123 t121)∧Aside0 (wc.heap[gb116]? = some (.cells #[.int .i64 t113,.int .i64 t114] 50 (0,0)))∧Aside0 (Below w.heap.size w wc))
   case first=>
    have H:=HC9.out;clear HC9;by_cases c24:(t115 != t119)=true
    ·rw [if_pos c24] at H;have c24b0:(t115 != t119)=true:=c24;(try (have c24b1:decide (t115=t119)=false:=by simpa using c24));(try (have c24b2:(t115 == t119)=false:=by simpa using c24));(try (have c24b3: ¬ (t115=t119):=by simpa using c24));clear c24
     (first|rw [c24b0]|(simp only [i64_w,i32_w];rw [c24b0])|skip)
     as_aux_lemma=>
      have H':=aM H;clear H;go_wp2
      go_meet
      case rel=>exact ⟨_,(true),(by first|rfl|(simp;done)|(simp [*];done)),H',⟨by first|omega|exact Nat.le_refl _⟩,⟨by (with_reducible repeat first|apply Kd.Qh|apply Kd.Qi|apply Kd.R_drew);exact Kd.R_mono HO106.out (fun _ hk=>⟨hk.1.1.1,⟨hk.1.1.2.1,hk.1.2⟩⟩)⟩,⟨by (with_reducible repeat first|apply Kd.Qh|apply Kd.Qi|apply Kd.R_drew);exact Kd.R_mono HO108.out (fun _ hk=>⟨hk.1.1.1,⟨hk.1.1.2.1,hk.1.2⟩⟩)⟩,⟨by (with_reducible repeat first|apply Kd.Qh|apply Kd.Qi|apply Kd.R_drew);exact Kd.R_mono HO110.out (fun _ hk=>⟨hk.1.1.1,⟨hk.1.1.2.1,hk.1.2⟩⟩)⟩,⟨by (with_reducible repeat first|apply Kd.Qh|apply Kd.Qi|apply Kd.R_drew);exact Kd.R_mono HO124.out (fun _ hk=>⟨hk.1.1.1.1.2,⟨hk.1.1.1.2,hk.1.1.2⟩⟩)⟩,⟨by (with_reducible repeat first|apply Qf|apply Qg|apply Qe);exact BK116.out⟩,⟨by repeat (first|(with_reducible first|exact HB.out|apply Qc|apply Qa|apply Qb|refine Qd ?_ GE116.out|refine Qd ?_ GE120.out)|exact HB.out)⟩⟩
    ·rw [if_neg c24] at H;have c24b0:(t115 != t119)=false:=by simpa using c24
     (try (have c24b1:decide (t115=t119)=true:=by simpa using c24));(try (have c24b2:(t115 == t119)=true:=by simpa using c24));clear c24
     (first|rw [c24b0]|(simp only [i64_w,i32_w];rw [c24b0])|skip)
     by_cases c25:(!(t113 == t117) || (!(t114 == t118)))=true
     ·rw [if_pos c25] at H;have c25b0:(!(t113 == t117) || (!(t114 == t118)))=true:=c25;clear c25
      as_aux_lemma=>
       have H':=aM H;clear H;have hnb26:=NB116_120.out;have hnc26:=NB120_116.out;have hcz27_0:w23.cell? ⟨gb116,0,none⟩=some (.int .i64 t113):=(Qn BK116.out 0).trans rfl;have hcz27_1:w23.cell? ⟨gb116,1,none⟩=some (.int .i64 t114):=(Qn BK116.out 1).trans rfl;have hfz27_0:=Qk BK116.out 0;have hfz27_1:=Qk BK116.out 1;have hcz28_0:w23.cell? ⟨gb120,0,none⟩=some (.int .i64 t117):=(Qn BK120.out 0).trans rfl;have hcz28_1:w23.cell? ⟨gb120,1,none⟩=some (.int .i64 t118):=(Qn BK120.out 1).trans rfl;have hfz28_0:=Qk BK120.out 0;have hfz28_1:=Qk BK120.out 1;go_wp2
       go_meet
       case rel=>exact ⟨_,(true),(by first|rfl|(simp;done)|(simp [*];done)),H',⟨by first|omega|exact Nat.le_refl _⟩,⟨by (with_reducible repeat first|apply Kd.Qh|apply Kd.Qi|apply Kd.R_drew);exact Kd.R_mono HO106.out (fun _ hk=>⟨hk.1.1.1,⟨hk.1.1.2.1,hk.1.2⟩⟩)⟩,⟨by (with_reducible repeat first|apply Kd.Qh|apply Kd.Qi|apply Kd.R_drew);exact Kd.R_mono HO108.out (fun _ hk=>⟨hk.1.1.1,⟨hk.1.1.2.1,hk.1.2⟩⟩)⟩,⟨by (with_reducible repeat first|apply Kd.Qh|apply Kd.Qi|apply Kd.R_drew);exact Kd.R_mono HO110.out (fun _ hk=>⟨hk.1.1.1,⟨hk.1.1.2.1,hk.1.2⟩⟩)⟩,⟨by (with_reducible repeat first|apply Kd.Qh|apply Kd.Qi|apply Kd.R_drew);exact Kd.R_mono HO124.out (fun _ hk=>⟨hk.1.1.1.1.2,⟨hk.1.1.1.2,hk.1.1.2⟩⟩)⟩,⟨by (with_reducible repeat first|apply Qf|apply Qg|apply Qe);exact BK116.out⟩,⟨by repeat (first|(with_reducible first|exact HB.out|apply Qc|apply Qa|apply Qb|refine Qd ?_ GE116.out|refine Qd ?_ GE120.out)|exact HB.out)⟩⟩
     ·rw [if_neg c25] at H;have c25b0:(!(t113 == t117) || (!(t114 == t118)))=false:=by simpa using c25
      clear c25;by_cases c29:(t122 != t126)=true
      ·rw [if_pos c29] at H;have c29b0:(t122 != t126)=true:=c29;(try (have c29b1:decide (t122=t126)=false:=by simpa using c29));(try (have c29b2:(t122 == t126)=false:=by simpa using c29));(try (have c29b3: ¬ (t122=t126):=by simpa using c29));clear c29
       as_aux_lemma=>
        have H':=aM H;clear H;have hnb30:=NB116_120.out;have hnc30:=NB120_116.out;have hcz31_0:w23.cell? ⟨gb116,0,none⟩=some (.int .i64 t113):=(Qn BK116.out 0).trans rfl;have hcz31_1:w23.cell? ⟨gb116,1,none⟩=some (.int .i64 t114):=(Qn BK116.out 1).trans rfl;have hfz31_0:=Qk BK116.out 0;have hfz31_1:=Qk BK116.out 1;have hcz32_0:w23.cell? ⟨gb120,0,none⟩=some (.int .i64 t117):=(Qn BK120.out 0).trans rfl;have hcz32_1:w23.cell? ⟨gb120,1,none⟩=some (.int .i64 t118):=(Qn BK120.out 1).trans rfl;have hfz32_0:=Qk BK120.out 0;have hfz32_1:=Qk BK120.out 1;go_wp2
        go_meet
        case rel=>exact ⟨_,(true),(by first|rfl|(simp;done)|(simp [*];done)),H',⟨by first|omega|exact Nat.le_refl _⟩,⟨by (with_reducible repeat first|apply Kd.Qh|apply Kd.Qi|apply Kd.R_drew);exact Kd.R_mono HO106.out (fun _ hk=>⟨hk.1.1.1,⟨hk.1.1.2.1,hk.1.2⟩⟩)⟩,⟨by (with_reducible repeat first|apply Kd.Qh|apply Kd.Qi|apply Kd.R_drew);exact Kd.R_mono HO108.out (fun _ hk=>⟨hk.1.1.1,⟨hk.1.1.2.1,hk.1.2⟩⟩)⟩,⟨by (with_reducible repeat first|apply Kd.Qh|apply Kd.Qi|apply Kd.R_drew);exact Kd.R_mono HO110.out (fun _ hk=>⟨hk.1.1.1,⟨hk.1.1.2.1,hk.1.2⟩⟩)⟩,⟨by (with_reducible repeat first|apply Kd.Qh|apply Kd.Qi|apply Kd.R_drew);exact Kd.R_mono HO124.out (fun _ hk=>⟨hk.1.1.1.1.2,⟨hk.1.1.1.2,hk.1.1.2⟩⟩)⟩,⟨by (with_reducible repeat first|apply Qf|apply Qg|apply Qe);exact BK116.out⟩,⟨by repeat (first|(with_reducible first|exact HB.out|apply Qc|apply Qa|apply Qb|refine Qd ?_ GE116.out|refine Qd ?_ GE120.out)|exact HB.out)⟩⟩
      ·rw [if_neg c29] at H;have c29b0:(t122 != t126)=false:=by simpa using c29
       (try (have c29b1:decide (t122=t126)=true:=by simpa using c29));(try (have c29b2:(t122 == t126)=true:=by simpa using c29));clear c29;replace H:=Option.bind_eq_some_iff.mp H;obtain ⟨t129,A330,H⟩:=H;replace H:(laws_FnSlots.j0 k l1 t101 t102 t103 t115 t121 t122 (!t129) t113 t114)=some r:=H;have A33:=aM A330;clear A330
       as_aux_lemma=>
        have H':=aM H;clear H;have hnb34:=NB116_120.out;have hnc34:=NB120_116.out;have hcz35_0:w23.cell? ⟨gb116,0,none⟩=some (.int .i64 t113):=(Qn BK116.out 0).trans rfl;have hcz35_1:w23.cell? ⟨gb116,1,none⟩=some (.int .i64 t114):=(Qn BK116.out 1).trans rfl;have hfz35_0:=Qk BK116.out 0;have hfz35_1:=Qk BK116.out 1;have hcz36_0:w23.cell? ⟨gb120,0,none⟩=some (.int .i64 t117):=(Qn BK120.out 0).trans rfl;have hcz36_1:w23.cell? ⟨gb120,1,none⟩=some (.int .i64 t118):=(Qn BK120.out 1).trans rfl;have hfz36_0:=Qk BK120.out 0;have hfz36_1:=Qk BK120.out 1;obtain ⟨Ao37,co37,eo37⟩:=Kd.R_slice HO124.out;subst eo37;obtain ⟨Ao38,co38,eo38⟩:=Kd.R_slice HO128.out;subst eo38;go_wp2_with (first|(go_at_call 28;(with_reducible refine (laws_sameInts.calls k _ _ t121 _ _ t125 t129 _ ?side1 ?side2 ?side3 ?side4 A33.out).mono ?_);(case side1=>repeat first|exact (Kd.Qo HO124.out).2.2|(with_reducible first|refine Kd.Qq ?_ _|refine Kd.Qr ?_ _|refine Kd.C_drew ?_));(case side2=>exact (Kd.Qo HO124.out).2.1);(case side3=>repeat first|exact (Kd.Qo HO128.out).2.2|(with_reducible first|refine Kd.Qq ?_ _|refine Kd.Qr ?_ _|refine Kd.C_drew ?_));(case side4=>exact (Kd.Qo HO128.out).2.1);rintro e w' ⟨rfl,⟨nd,rfl⟩⟩))
        go_meet
        case rel=>exact ⟨_,(!t129),(by first|rfl|(simp;done)|(simp [*];done)),H',⟨by first|omega|exact Nat.le_refl _⟩,⟨by (with_reducible repeat first|apply Kd.Qh|apply Kd.Qi|apply Kd.R_drew);exact Kd.R_mono HO106.out (fun _ hk=>⟨hk.1.1.1,⟨hk.1.1.2.1,hk.1.2⟩⟩)⟩,⟨by (with_reducible repeat first|apply Kd.Qh|apply Kd.Qi|apply Kd.R_drew);exact Kd.R_mono HO108.out (fun _ hk=>⟨hk.1.1.1,⟨hk.1.1.2.1,hk.1.2⟩⟩)⟩,⟨by (with_reducible repeat first|apply Kd.Qh|apply Kd.Qi|apply Kd.R_drew);exact Kd.R_mono HO110.out (fun _ hk=>⟨hk.1.1.1,⟨hk.1.1.2.1,hk.1.2⟩⟩)⟩,⟨by (with_reducible repeat first|apply Kd.Qh|apply Kd.Qi|apply Kd.R_drew);exact Kd.R_mono HO124.out (fun _ hk=>⟨hk.1.1.1.1.2,⟨hk.1.1.1.2,hk.1.1.2⟩⟩)⟩,⟨by (with_reducible repeat first|apply Qf|apply Qg|apply Qe);exact BK116.out⟩,⟨by repeat (first|(with_reducible first|exact HB.out|apply Qc|apply Qa|apply Qb|refine Qd ?_ GE116.out|refine Qd ?_ GE120.out)|exact HB.out)⟩⟩
   case rest=>
    clear HC9;(try clear c1);(try clear c2);(try clear p2);(try clear c3);(try clear c3b0);(try clear c4);(try clear c5);(try clear p6);(try clear c20);(try clear c24);(try clear c24b0);(try clear c24b1);(try clear c24b2);(try clear c25);(try clear c25b0);(try clear c26);(try clear c29);(try clear c29b0);(try clear c29b1);(try clear c29b2);(try clear c30);(try clear c34);(try clear hcz17_0);(try clear hcz17_1);(try clear hcz21_0);(try clear hcz21_1);(try clear hcz27_0);(try clear hcz27_1);(try clear hcz28_0);(try clear hcz28_1);(try clear hcz31_0);(try clear hcz31_1);(try clear hcz32_0);(try clear hcz32_1);(try clear hcz35_0);(try clear hcz35_1);(try clear hcz36_0);(try clear hcz36_1);(try clear hfz17_0);(try clear hfz17_1);(try clear hfz21_0);(try clear hfz21_1);(try clear hfz27_0);(try clear hfz27_1);(try clear hfz28_0);(try clear hfz28_1);(try clear hfz31_0);(try clear hfz31_1);(try clear hfz32_0);(try clear hfz32_1);(try clear hfz35_0);(try clear hfz35_1);(try clear hfz36_0);(try clear hfz36_1);obtain ⟨kq,x90_8,rfl,HA,HJ8,HO_5,HO_6,HO_7,HO_13,BK116,HB⟩:=hcut
    cases kq with
    |zero=>exact absurd HA.out (by simp [laws_FnSlots.j0])
    |succ kj8=>
     have H:=HA.out;clear HA;simp only [laws_FnSlots.j0] at H;by_cases c39:x90_8=true
     ·subst c39;have H1:(some false)=some r:=by rw [if_pos rfl] at H;exact H
      clear H;have H:=H1;clear H1
      as_aux_lemma=>
       obtain rfl:=Option.some.inj H;go_wp2
       go_ret
       exact ⟨by first|rfl|(simp [errW_none,errW_some] <;> rfl)|(simp [*,errW_none,errW_some] <;> rfl),by repeat (first|(with_reducible first|exact HB.out|apply Qc|apply Qa|apply Qb|refine Qd ?_ GE116.out)|exact HB.out)⟩
     ·replace c39:=Bool.eq_false_iff.mpr c39;subst c39;have H1:(if t122=true then ((impl_OwnersFit.f kj8 t102 t121).bind fun bt130=>((impl_TravelOf.f kj8 t101 t102 t103 t121).bind fun bt132=>(if bt130.2=true then (laws_FnSlots.j1 kj8 l1 t115 bt132.2.2 (!bt130.1) t113 t114 bt132.1 bt132.2.1) else (laws_FnSlots.j1 kj8 l1 t115 bt132.2.2 true t113 t114 bt132.1 bt132.2.1)))) else ((spec_DrawOwnersFit.f kj8 l1).bind fun bt158=>((impl_OwnersFit.f kj8 bt158.1 bt158.2).bind fun bt164=>((spec_OwnersFit.f kj8 bt158.1 bt158.2).bind fun bt166=>(if (bt164.2 == bt166.2)=true then (some (bt164.1 == bt166.1)) else (some false))))))=some r:=by rw [if_neg (show ¬ (false=true) by decide)] at H;exact H
      clear H;have H:=H1;clear H1;by_cases c40:t122=true
      ·subst c40;have H1:((impl_OwnersFit.f kj8 t102 t121).bind fun bt130=>((impl_TravelOf.f kj8 t101 t102 t103 t121).bind fun bt132=>(if bt130.2=true then (laws_FnSlots.j1 kj8 l1 t115 bt132.2.2 (!bt130.1) t113 t114 bt132.1 bt132.2.1) else (laws_FnSlots.j1 kj8 l1 t115 bt132.2.2 true t113 t114 bt132.1 bt132.2.1))))=some r:=by rw [if_pos rfl] at H;exact H
       clear H;have H:=H1;clear H1;replace H:=Option.bind_eq_some_iff.mp H;obtain ⟨⟨t130,t131⟩,A410,H⟩:=H;replace H:((impl_TravelOf.f kj8 t101 t102 t103 t121).bind fun bt132=>(if t131=true then (laws_FnSlots.j1 kj8 l1 t115 bt132.2.2 (!t130) t113 t114 bt132.1 bt132.2.1) else (laws_FnSlots.j1 kj8 l1 t115 bt132.2.2 true t113 t114 bt132.1 bt132.2.1)))=some r:=H;have A41:=aM A410;clear A410;replace H:=Option.bind_eq_some_iff.mp H;obtain ⟨⟨t132,t133,t134⟩,A420,H⟩:=H;replace H:(if t131=true then (laws_FnSlots.j1 kj8 l1 t115 t134 (!t130) t113 t114 t132 t133) else (laws_FnSlots.j1 kj8 l1 t115 t134 true t113 t114 t132 t133))=some r:=H;have A42:=aM A420;clear A420;have HC43:=aM H;clear H;obtain ⟨Ao44,co44,eo44⟩:=Kd.R_slice HO_13.out;subst eo44
       go_upto_region 13 with (first|((with_reducible refine Qp (f:=46) rfl ?_);refine goesL_ (some 95) rfl rfl Try.func46 (by kernel_rfl) rfl #[.slice Ao12 t102.length co12,.slice Ao44 t121.length co44] rfl (by (try simp only [aD,aE,aF]);first|done|rfl|(simp only [aG,aH];rfl)) ?_;(with_reducible refine (impl_OwnersFit.calls kj8 _ _ t102 _ _ t121 t130 t131 _ ?side1 ?side2 ?side3 ?side4 A41.out).mono ?_);(case side1=>repeat first|exact (Kd.Qo HO_6.out).2.2|(with_reducible first|refine Kd.Qq ?_ _|refine Kd.Qr ?_ _|refine Kd.C_drew ?_));(case side2=>exact (Kd.Qo HO_6.out).2.1);(case side3=>repeat first|exact (Kd.Qo HO_13.out).2.2|(with_reducible first|refine Kd.Qq ?_ _|refine Kd.Qr ?_ _|refine Kd.C_drew ?_));(case side4=>exact (Kd.Qo HO_13.out).2.1);rintro e w45 ⟨rfl,hb⟩;refine ⟨_,rfl,?_⟩;have n0_:=aM (Kd.R_below (by (with_reducible repeat first|apply Kd.Qh|apply Kd.Qi|apply Kd.R_drew);exact HO_5.out) hb);have n1_:=aM (Kd.R_below (by (with_reducible repeat first|apply Kd.Qh|apply Kd.Qi|apply Kd.R_drew);exact HO_6.out) hb);have n2_:=aM (Kd.R_below (by (with_reducible repeat first|apply Kd.Qh|apply Kd.Qi|apply Kd.R_drew);exact HO_7.out) hb);have n3_:=aM (Kd.R_below (by (with_reducible repeat first|apply Kd.Qh|apply Kd.Qi|apply Kd.R_drew);exact HO_13.out) hb);have n4_:=aM (Qm (g:=gb116) (o:= .cells #[.int .i64 t113,.int .i64 t114] 50 (0,0)) (by (with_reducible repeat first|apply Qf|apply Qg|apply Qe);exact BK116.out) hb);have n5_:=aM (Ql (by repeat first|(with_reducible first|exact HB.out|apply Qc|apply Qa|apply Qb|refine Qd ?_ GE116.out)|exact HB.out) hb);clear HO_5 HO_6 HO_7 HO_13 BK116 HB;have HO_5:=n0_;have HO_6:=n1_;have HO_7:=n2_;have HO_13:=n3_;have BK116:=n4_;have HB:=n5_;clear n0_ n1_ n2_ n3_ n4_ n5_ hb)|((with_reducible refine Qp (f:=42) rfl ?_);refine goesL_ (some 103) rfl rfl Try.func42 (by kernel_rfl) rfl #[.slice Ao11 t101.length co11,.slice Ao12 t102.length co12,.slice Ao13 t103.length co13,.slice Ao44 t121.length co44] rfl (by (try simp only [aD,aE,aF]);first|done|rfl|(simp only [aG,aH];rfl)) ?_;(with_reducible refine (impl_TravelOf.calls kj8 _ _ t101 _ _ t102 _ _ t103 _ _ t121 t132 t133 t134 _ ?side1 ?side2 ?side3 ?side4 ?side5 ?side6 ?side7 ?side8 A42.out).mono ?_);(case side1=>repeat first|exact (Kd.Qo HO_5.out).2.2|(with_reducible first|refine Kd.Qq ?_ _|refine Kd.Qr ?_ _|refine Kd.C_drew ?_));(case side2=>exact (Kd.Qo HO_5.out).2.1);(case side3=>repeat first|exact (Kd.Qo HO_6.out).2.2|(with_reducible first|refine Kd.Qq ?_ _|refine Kd.Qr ?_ _|refine Kd.C_drew ?_));(case side4=>exact (Kd.Qo HO_6.out).2.1);(case side5=>repeat first|exact (Kd.Qo HO_7.out).2.2|(with_reducible first|refine Kd.Qq ?_ _|refine Kd.Qr ?_ _|refine Kd.C_drew ?_));(case side6=>exact (Kd.Qo HO_7.out).2.1);(case side7=>repeat first|exact (Kd.Qo HO_13.out).2.2|(with_reducible first|refine Kd.Qq ?_ _|refine Kd.Qr ?_ _|refine Kd.C_drew ?_));(case side8=>exact (Kd.Qo HO_13.out).2.1);rintro e w46 ⟨rfl,hb⟩;refine ⟨_,rfl,?_⟩;have n0_:=aM (Kd.R_below (by (with_reducible repeat first|apply Kd.Qh|apply Kd.Qi|apply Kd.R_drew);exact HO_5.out) hb);have n1_:=aM (Kd.R_below (by (with_reducible repeat first|apply Kd.Qh|apply Kd.Qi|apply Kd.R_drew);exact HO_6.out) hb);have n2_:=aM (Kd.R_below (by (with_reducible repeat first|apply Kd.Qh|apply Kd.Qi|apply Kd.R_drew);exact HO_7.out) hb);have n3_:=aM (Kd.R_below (by (with_reducible repeat first|apply Kd.Qh|apply Kd.Qi|apply Kd.R_drew);exact HO_13.out) hb);have n4_:=aM (Qm (g:=gb116) (o:= .cells #[.int .i64 t113,.int .i64 t114] 50 (0,0)) (by (with_reducible repeat first|apply Qf|apply Qg|apply Qe);exact BK116.out) hb);have n5_:=aM (Ql (by repeat first|(with_reducible first|exact HB.out|apply Qc|apply Qa|apply Qb|refine Qd ?_ GE116.out)|exact HB.out) hb);clear HO_5 HO_6 HO_7 HO_13 BK116 HB;have HO_5:=n0_;have HO_6:=n1_;have HO_7:=n2_;have HO_13:=n3_;have BK116:=n4_;have HB:=n5_;clear n0_ n1_ n2_ n3_ n4_ n5_ hb)|((with_reducible refine Qs (N:=19) rfl ?_);refine Qt ?hg (N:=19) ?hd (cs:=#[.int .i64 0,.int .i64 0]) (t:=50) ?hr ?_;(case hd=>rfl);(case hg=>rfl);(case hr=>first|(go_simp;done)|(go_simp;rfl));intro gb135 hg w47 hbox hb;have n0_:=aM (Kd.R_below (by (with_reducible repeat first|apply Kd.Qh|apply Kd.Qi|apply Kd.R_drew);exact HO_5.out) hb);have n1_:=aM (Kd.R_below (by (with_reducible repeat first|apply Kd.Qh|apply Kd.Qi|apply Kd.R_drew);exact HO_6.out) hb);have n2_:=aM (Kd.R_below (by (with_reducible repeat first|apply Kd.Qh|apply Kd.Qi|apply Kd.R_drew);exact HO_7.out) hb);have n3_:=aM (Kd.R_below (by (with_reducible repeat first|apply Kd.Qh|apply Kd.Qi|apply Kd.R_drew);exact HO_13.out) hb);have n4_:=aM (Qm (g:=gb116) (o:= .cells #[.int .i64 t113,.int .i64 t114] 50 (0,0)) (by (with_reducible repeat first|apply Qf|apply Qg|apply Qe);exact BK116.out) hb);have n5_:=aM (Ql (by repeat first|(with_reducible first|exact HB.out|apply Qc|apply Qa|apply Qb|refine Qd ?_ GE116.out)|exact HB.out) hb);have n6_:=aM (hbox);have n7_:=aM ((by rw [hg];exact (Qj (by repeat first|(with_reducible first|exact HB.out|apply Qc|apply Qa|apply Qb|refine Qd ?_ GE116.out)|exact HB.out)):w.heap.size≤gb135));have n8_:=aM ((by rw [hg];exact (Qj (by repeat first|(with_reducible first|exact HB.out|apply Qc|apply Qa|apply Qb|refine Qd ?_ GE116.out)|exact HB.out)):w.heap.size≤gb135));have n9_:=aM ((by rw [hg];exact Nat.ne_of_lt (blk_lt (g:=gb116) (o:= .cells #[.int .i64 t113,.int .i64 t114] 50 (0,0)) (by (with_reducible repeat first|apply Qf|apply Qg|apply Qe);exact BK116.out)):gb116≠gb135));have n10_:=aM ((by rw [hg];exact Nat.ne_of_gt (blk_lt (g:=gb116) (o:= .cells #[.int .i64 t113,.int .i64 t114] 50 (0,0)) (by (with_reducible repeat first|apply Qf|apply Qg|apply Qe);exact BK116.out)):gb135≠gb116));clear HO_5 HO_6 HO_7 HO_13 BK116 HB;have HO_5:=n0_;have HO_6:=n1_;have HO_7:=n2_;have HO_13:=n3_;have BK116:=n4_;have HB:=n5_;have BK135:=n6_;have GW135:=n7_;have GE135:=n8_;have NB116_135:=n9_;have NB135_116:=n10_;clear n0_ n1_ n2_ n3_ n4_ n5_ n6_ n7_ n8_ n9_ n10_ hb hbox hg;have hnb48:=NB135_116.out;have hnc48:=NB116_135.out;have hcz49_0:w47.cell? ⟨gb135,0,none⟩=some (.int .i64 0):=(Qn BK135.out 0).trans rfl;have hcz49_1:w47.cell? ⟨gb135,1,none⟩=some (.int .i64 0):=(Qn BK135.out 1).trans rfl;have hfz49_0:=Qk BK135.out 0;have hfz49_1:=Qk BK135.out 1))
       (try simp only [Act.put,aA,aB,aC])
       go_cut [111] (fun v111 wc=>∃ (kq:Nat) (x111_42:Bool),v111= .bool x111_42∧Aside0 (laws_FnSlots.j1 kq l1 t115 t134 x111_42 t113 t114 t132 t133=some r)∧Aside0 (kq≤kj8)∧Aside0 (wc.heap[gb116]? = some (.cells #[.int .i64 t113,.int .i64 t114] 50 (0,0)))∧Aside0 (wc.heap[gb135]? = some (.cells #[.int .i64 t132,.int .i64 t133] 50 (0,0)))∧Aside0 (Below w.heap.size w wc))
       case first=>
        have H:=HC43.out;clear HC43;by_cases c50:t131=true
        ·subst c50;have H1:(laws_FnSlots.j1 kj8 l1 t115 t134 (!t130) t113 t114 t132 t133)=some r:=by rw [if_pos rfl] at H;exact H
         clear H;have H:=H1;clear H1
         as_aux_lemma=>
          have H':=aM H;clear H;go_wp2
          go_meet
          case rel=>exact ⟨_,(!t130),(by first|rfl|(simp;done)|(simp [*];done)),H',⟨by have:=HJ8.out;first|omega|exact Nat.le_refl _⟩,⟨by (with_reducible repeat first|apply Qf|apply Qg|apply Qe);refine blk_far ?_ NB116_135.out _;(with_reducible repeat first|apply Qf|apply Qg|apply Qe);refine blk_far ?_ NB116_135.out _;(with_reducible repeat first|apply Qf|apply Qg|apply Qe);exact BK116.out⟩,⟨by (with_reducible repeat first|apply Qf|apply Qg|apply Qe);refine blk_put (cs:=#[.int .i64 t132,.int .i64 0]) ?_ 1 _ rfl;(with_reducible repeat first|apply Qf|apply Qg|apply Qe);refine blk_put (cs:=#[.int .i64 0,.int .i64 0]) ?_ 0 _ rfl;(with_reducible repeat first|apply Qf|apply Qg|apply Qe);exact BK135.out⟩,⟨by repeat (first|(with_reducible first|exact HB.out|apply Qc|apply Qa|apply Qb|refine Qd ?_ GE116.out|refine Qd ?_ GE135.out)|exact HB.out)⟩⟩
        ·replace c50:=Bool.eq_false_iff.mpr c50;subst c50;have H1:(laws_FnSlots.j1 kj8 l1 t115 t134 true t113 t114 t132 t133)=some r:=by rw [if_neg (show ¬ (false=true) by decide)] at H;exact H
         clear H;have H:=H1;clear H1
         as_aux_lemma=>
          have H':=aM H;clear H;go_wp2
          go_meet
          case rel=>exact ⟨_,(true),(by first|rfl|(simp;done)|(simp [*];done)),H',⟨by have:=HJ8.out;first|omega|exact Nat.le_refl _⟩,⟨by (with_reducible repeat first|apply Qf|apply Qg|apply Qe);refine blk_far ?_ NB116_135.out _;(with_reducible repeat first|apply Qf|apply Qg|apply Qe);refine blk_far ?_ NB116_135.out _;(with_reducible repeat first|apply Qf|apply Qg|apply Qe);exact BK116.out⟩,⟨by (with_reducible repeat first|apply Qf|apply Qg|apply Qe);refine blk_put (cs:=#[.int .i64 t132,.int .i64 0]) ?_ 1 _ rfl;(with_reducible repeat first|apply Qf|apply Qg|apply Qe);refine blk_put (cs:=#[.int .i64 0,.int .i64 0]) ?_ 0 _ rfl;(with_reducible repeat first|apply Qf|apply Qg|apply Qe);exact BK135.out⟩,⟨by repeat (first|(with_reducible first|exact HB.out|apply Qc|apply Qa|apply Qb|refine Qd ?_ GE116.out|refine Qd ?_ GE135.out)|exact HB.out)⟩⟩
       case rest=>
        clear HC43;(try clear c1);(try clear c2);(try clear p2);(try clear c3);(try clear c3b0);(try clear c4);(try clear c5);(try clear p6);(try clear c20);(try clear c24);(try clear c24b0);(try clear c24b1);(try clear c24b2);(try clear c25);(try clear c25b0);(try clear c26);(try clear c29);(try clear c29b0);(try clear c29b1);(try clear c29b2);(try clear c30);(try clear c34);(try clear c39);(try clear c40);(try clear c41);(try clear c42);(try clear c43);(try clear c44);(try clear c45);(try clear c46);(try clear c48);(try clear c50);(try clear hcz17_0);(try clear hcz17_1);(try clear hcz21_0);(try clear hcz21_1);(try clear hcz27_0);(try clear hcz27_1);(try clear hcz28_0);(try clear hcz28_1);(try clear hcz31_0);(try clear hcz31_1);(try clear hcz32_0);(try clear hcz32_1);(try clear hcz35_0);(try clear hcz35_1);(try clear hcz36_0);(try clear hcz36_1);(try clear hcz49_0);(try clear hcz49_1);(try clear hfz17_0);(try clear hfz17_1);(try clear hfz21_0);(try clear hfz21_1);(try clear hfz27_0);(try clear hfz27_1);(try clear hfz28_0);(try clear hfz28_1);(try clear hfz31_0);(try clear hfz31_1);(try clear hfz32_0);(try clear hfz32_1);(try clear hfz35_0);(try clear hfz35_1);(try clear hfz36_0);(try clear hfz36_1);(try clear hfz49_0);(try clear hfz49_1);(try clear p2);(try clear p6);obtain ⟨kq,x111_42,rfl,HA,HJ42,BK116,BK135,HB⟩:=hcut
        cases kq with
        |zero=>exact absurd HA.out (by simp [laws_FnSlots.j1])
        |succ kj42=>
         have H:=HA.out;clear HA;simp only [laws_FnSlots.j1] at H;by_cases c51:x111_42=true
         ·subst c51;have H1:(some false)=some r:=by rw [if_pos rfl] at H;exact H
          clear H;have H:=H1;clear H1
          as_aux_lemma=>
           obtain rfl:=Option.some.inj H;go_wp2
           go_ret
           exact ⟨by first|rfl|(simp [errW_none,errW_some] <;> rfl)|(simp [*,errW_none,errW_some] <;> rfl),by repeat (first|(with_reducible first|exact HB.out|apply Qc|apply Qa|apply Qb|refine Qd ?_ GE116.out|refine Qd ?_ GE135.out)|exact HB.out)⟩
         ·replace c51:=Bool.eq_false_iff.mpr c51;subst c51;have H1:(if t115=true then (laws_FnSlots.j2 kj42 l1 t134 t113 t114 t132 t133) else (laws_FnSlots.j2 kj42 l1 false t113 t114 t132 t133))=some r:=by rw [if_neg (show ¬ (false=true) by decide)] at H;exact H
          clear H;have H:=H1;clear H1;have HC52:=aM H;clear H
          go_upto_region 15 with (fail)
          go_cut [115] (fun v115 wc=>∃ (kq:Nat) (x115_51:Bool),v115= .bool x115_51∧Aside0 (laws_FnSlots.j2 kq l1 x115_51 t113 t114 t132 t133=some r)∧Aside0 (kq≤kj42)∧Aside0 (wc.heap[gb116]? = some (.cells #[.int .i64 t113,.int .i64 t114] 50 (0,0)))∧Aside0 (wc.heap[gb135]? = some (.cells #[.int .i64 t132,.int .i64 t133] 50 (0,0)))∧Aside0 (Below w.heap.size w wc))
          case first=>
           have H:=HC52.out;clear HC52;by_cases c53:t115=true
           ·subst c53;have H1:(laws_FnSlots.j2 kj42 l1 t134 t113 t114 t132 t133)=some r:=by rw [if_pos rfl] at H;exact H
            clear H;have H:=H1;clear H1
            as_aux_lemma=>
             have H':=aM H;clear H;go_wp2
             go_meet
             case rel=>exact ⟨_,(t134),(by first|rfl|(simp;done)|(simp [*];done)),H',⟨by have:=HJ8.out;have:=HJ42.out;first|omega|exact Nat.le_refl _⟩,⟨by (with_reducible repeat first|apply Qf|apply Qg|apply Qe);exact BK116.out⟩,⟨by (with_reducible repeat first|apply Qf|apply Qg|apply Qe);exact BK135.out⟩,⟨by repeat (first|(with_reducible first|exact HB.out|apply Qc|apply Qa|apply Qb|refine Qd ?_ GE116.out|refine Qd ?_ GE135.out)|exact HB.out)⟩⟩
           ·replace c53:=Bool.eq_false_iff.mpr c53;subst c53;have H1:(laws_FnSlots.j2 kj42 l1 false t113 t114 t132 t133)=some r:=by rw [if_neg (show ¬ (false=true) by decide)] at H;exact H
            clear H;have H:=H1;clear H1
            as_aux_lemma=>
             have H':=aM H;clear H;go_wp2
             go_meet
             case rel=>exact ⟨_,(false),(by first|rfl|(simp;done)|(simp [*];done)),H',⟨by have:=HJ8.out;have:=HJ42.out;first|omega|exact Nat.le_refl _⟩,⟨by (with_reducible repeat first|apply Qf|apply Qg|apply Qe);exact BK116.out⟩,⟨by (with_reducible repeat first|apply Qf|apply Qg|apply Qe);exact BK135.out⟩,⟨by repeat (first|(with_reducible first|exact HB.out|apply Qc|apply Qa|apply Qb|refine Qd ?_ GE116.out|refine Qd ?_ GE135.out)|exact HB.out)⟩⟩
          case rest=>
           clear HC52;(try clear c1);(try clear c2);(try clear p2);(try clear c3);(try clear c3b0);(try clear c4);(try clear c5);(try clear p6);(try clear c20);(try clear c24);(try clear c24b0);(try clear c24b1);(try clear c24b2);(try clear c25);(try clear c25b0);(try clear c26);(try clear c29);(try clear c29b0);(try clear c29b1);(try clear c29b2);(try clear c30);(try clear c34);(try clear c39);(try clear c40);(try clear c41);(try clear c42);(try clear c43);(try clear c44);(try clear c45);(try clear c46);(try clear c48);(try clear c50);(try clear c51);(try clear c53);(try clear hcz17_0);(try clear hcz17_1);(try clear hcz21_0);(try clear hcz21_1);(try clear hcz27_0);(try clear hcz27_1);(try clear hcz28_0);(try clear hcz28_1);(try clear hcz31_0);(try clear hcz31_1);(try clear hcz32_0);(try clear hcz32_1);(try clear hcz35_0);(try clear hcz35_1);(try clear hcz36_0);(try clear hcz36_1);(try clear hcz49_0);(try clear hcz49_1);(try clear hfz17_0);(try clear hfz17_1);(try clear hfz21_0);(try clear hfz21_1);(try clear hfz27_0);(try clear hfz27_1);(try clear hfz28_0);(try clear hfz28_1);(try clear hfz31_0);(try clear hfz31_1);(try clear hfz32_0);(try clear hfz32_1);(try clear hfz35_0);(try clear hfz35_1);(try clear hfz36_0);(try clear hfz36_1);(try clear hfz49_0);(try clear hfz49_1);(try clear p2);(try clear p6);obtain ⟨kq,x115_51,rfl,HA,HJ51,BK116,BK135,HB⟩:=hcut
           cases kq with
           |zero=>exact absurd HA.out (by simp [laws_FnSlots.j2])
           |succ kj51=>
            have H:=HA.out;clear HA;simp only [laws_FnSlots.j2] at H;by_cases c54:x115_51=true
            ·subst c54;have H1:((impl_LessFrac.f kj51 t113 t114 t132 t133).bind fun bt136=>(if bt136.2=true then (laws_FnSlots.j3 kj51 l1 bt136.1) else (laws_FnSlots.j3 kj51 l1 true)))=some r:=by rw [if_pos rfl] at H;exact H
             clear H;have H:=H1;clear H1;replace H:=Option.bind_eq_some_iff.mp H;obtain ⟨⟨t136,t137⟩,A550,H⟩:=H;replace H:(if t137=true then (laws_FnSlots.j3 kj51 l1 t136) else (laws_FnSlots.j3 kj51 l1 true))=some r:=H;have A55:=aM A550;clear A550;have HC56:=aM H;clear H;have hnb57:=NB116_135.out;have hnc57:=NB135_116.out;have hcz58_0:wc.cell? ⟨gb116,0,none⟩=some (.int .i64 t113):=(Qn BK116.out 0).trans rfl;have hcz58_1:wc.cell? ⟨gb116,1,none⟩=some (.int .i64 t114):=(Qn BK116.out 1).trans rfl;have hfz58_0:=Qk BK116.out 0;have hfz58_1:=Qk BK116.out 1;have hcz59_0:wc.cell? ⟨gb135,0,none⟩=some (.int .i64 t132):=(Qn BK135.out 0).trans rfl;have hcz59_1:wc.cell? ⟨gb135,1,none⟩=some (.int .i64 t133):=(Qn BK135.out 1).trans rfl;have hfz59_0:=Qk BK135.out 0;have hfz59_1:=Qk BK135.out 1
             go_upto_region 17 with (first|((with_reducible refine Qp (f:=47) rfl ?_);refine goesL_ (some 119) rfl rfl Try.func47 (by kernel_rfl) rfl #[.agg #[.int .i64 t113,.int .i64 t114],.agg #[.int .i64 t132,.int .i64 t133]] rfl (by (try simp only [aD,aE,aF]);first|done|rfl|(simp only [aG,aH];rfl)) ?_;(with_reducible refine (impl_LessFrac.calls kj51 t113 t114 t132 t133 t136 t137 _ A55.out).mono ?_);rintro e w60 ⟨rfl,hb⟩;refine ⟨_,rfl,?_⟩;have n0_:=aM (Qm (g:=gb116) (o:= .cells #[.int .i64 t113,.int .i64 t114] 50 (0,0)) (by (with_reducible repeat first|apply Qf|apply Qg|apply Qe);exact BK116.out) hb);have n1_:=aM (Qm (g:=gb135) (o:= .cells #[.int .i64 t132,.int .i64 t133] 50 (0,0)) (by (with_reducible repeat first|apply Qf|apply Qg|apply Qe);exact BK135.out) hb);have n2_:=aM (Ql (by repeat first|(with_reducible first|exact HB.out|apply Qc|apply Qa|apply Qb|refine Qd ?_ GE116.out|refine Qd ?_ GE135.out)|exact HB.out) hb);clear BK116 BK135 HB;have BK116:=n0_;have BK135:=n1_;have HB:=n2_;clear n0_ n1_ n2_ hb))
             (try simp only [Act.put,aA,aB,aC])
             go_cut [126] (fun v126 wc=>∃ (kq:Nat) (x126_55:Bool),v126= .bool x126_55∧Aside0 (laws_FnSlots.j3 kq l1 x126_55=some r)∧Aside0 (kq≤kj51)∧Aside0 (Below w.heap.size w wc))
             case first=>
              have H:=HC56.out;clear HC56;by_cases c61:t137=true
              ·subst c61;have H1:(laws_FnSlots.j3 kj51 l1 t136)=some r:=by rw [if_pos rfl] at H;exact H
               clear H;have H:=H1;clear H1
               as_aux_lemma=>
                have H':=aM H;clear H;go_wp2
                go_meet
                case rel=>exact ⟨_,(t136),(by first|rfl|(simp;done)|(simp [*];done)),H',⟨by have:=HJ8.out;have:=HJ42.out;have:=HJ51.out;first|omega|exact Nat.le_refl _⟩,⟨by repeat (first|(with_reducible first|exact HB.out|apply Qc|apply Qa|apply Qb|refine Qd ?_ GE116.out|refine Qd ?_ GE135.out)|exact HB.out)⟩⟩
              ·replace c61:=Bool.eq_false_iff.mpr c61;subst c61;have H1:(laws_FnSlots.j3 kj51 l1 true)=some r:=by rw [if_neg (show ¬ (false=true) by decide)] at H;exact H
               clear H;have H:=H1;clear H1
               as_aux_lemma=>
                have H':=aM H;clear H;go_wp2
                go_meet
                case rel=>exact ⟨_,(true),(by first|rfl|(simp;done)|(simp [*];done)),H',⟨by have:=HJ8.out;have:=HJ42.out;have:=HJ51.out;first|omega|exact Nat.le_refl _⟩,⟨by repeat (first|(with_reducible first|exact HB.out|apply Qc|apply Qa|apply Qb|refine Qd ?_ GE116.out|refine Qd ?_ GE135.out)|exact HB.out)⟩⟩
             case rest=>
              clear HC56;(try clear c1);(try clear c2);(try clear p2);(try clear c3);(try clear c3b0);(try clear c4);(try clear c5);(try clear c6);(try clear p6);(try clear c20);(try clear c24);(try clear c24b0);(try clear c24b1);(try clear c24b2);(try clear c25);(try clear c25b0);(try clear c26);(try clear c29);(try clear c29b0);(try clear c29b1);(try clear c29b2);(try clear c30);(try clear c34);(try clear c39);(try clear c40);(try clear c41);(try clear c42);(try clear c43);(try clear c44);(try clear c45);(try clear c46);(try clear c47);(try clear c48);(try clear c50);(try clear c51);(try clear c53);(try clear c54);(try clear c57);(try clear c61);(try clear hcz17_0);(try clear hcz17_1);(try clear hcz21_0);(try clear hcz21_1);(try clear hcz27_0);(try clear hcz27_1);(try clear hcz28_0);(try clear hcz28_1);(try clear hcz31_0);(try clear hcz31_1);(try clear hcz32_0);(try clear hcz32_1);(try clear hcz35_0);(try clear hcz35_1);(try clear hcz36_0);(try clear hcz36_1);(try clear hcz49_0);(try clear hcz49_1);(try clear hcz58_0);(try clear hcz58_1);(try clear hcz59_0);(try clear hcz59_1);(try clear hfz17_0);(try clear hfz17_1);(try clear hfz21_0);(try clear hfz21_1);(try clear hfz27_0);(try clear hfz27_1);(try clear hfz28_0);(try clear hfz28_1);(try clear hfz31_0);(try clear hfz31_1);(try clear hfz32_0);(try clear hfz32_1);(try clear hfz35_0);(try clear hfz35_1);(try clear hfz36_0);(try clear hfz36_1);(try clear hfz49_0);(try clear hfz49_1);(try clear hfz58_0);(try clear hfz58_1);(try clear hfz59_0);(try clear hfz59_1);(try clear p2);(try clear p6);obtain ⟨kq,x126_55,rfl,HA,HJ55,HB⟩:=hcut
              cases kq with
              |zero=>exact absurd HA.out (by simp [laws_FnSlots.j3])
              |succ kj55=>
               have H:=HA.out;clear HA;simp only [laws_FnSlots.j3] at H;by_cases c62:x126_55=true
               ·subst c62;have H1:(some false)=some r:=by rw [if_pos rfl] at H;exact H
                clear H;have H:=H1;clear H1
                as_aux_lemma=>
                 obtain rfl:=Option.some.inj H;go_wp2
                 go_ret
                 exact ⟨by first|rfl|(simp [errW_none,errW_some] <;> rfl)|(simp [*,errW_none,errW_some] <;> rfl),by repeat (with_reducible first|exact HB.out|apply Qc|apply Qa|apply Qb)⟩
               ·replace c62:=Bool.eq_false_iff.mpr c62;subst c62;have H1:((spec_DrawOwnersFit.f kj55 l1).bind fun bt138=>((impl_OwnersFit.f kj55 bt138.1 bt138.2).bind fun bt144=>((spec_OwnersFit.f kj55 bt138.1 bt138.2).bind fun bt146=>(if (bt144.2 == bt146.2)=true then (some (bt144.1 == bt146.1)) else (some false)))))=some r:=by rw [if_neg (show ¬ (false=true) by decide)] at H;exact H
                clear H;have H:=H1;clear H1;replace H:=Option.bind_eq_some_iff.mp H;obtain ⟨⟨t138,t139⟩,A630,H⟩:=H;replace H:((impl_OwnersFit.f kj55 t138 t139).bind fun bt144=>((spec_OwnersFit.f kj55 t138 t139).bind fun bt146=>(if (bt144.2 == bt146.2)=true then (some (bt144.1 == bt146.1)) else (some false))))=some r:=H;have A63:=aM A630;clear A630;replace H:=Option.bind_eq_some_iff.mp H;obtain ⟨⟨t144,t145⟩,A640,H⟩:=H;replace H:((spec_OwnersFit.f kj55 t138 t139).bind fun bt146=>(if (t145 == bt146.2)=true then (some (t144 == bt146.1)) else (some false)))=some r:=H;have A64:=aM A640;clear A640;replace H:=Option.bind_eq_some_iff.mp H;obtain ⟨⟨t146,t147⟩,A650,H⟩:=H;replace H:(if (t145 == t147)=true then (some (t144 == t146)) else (some false))=some r:=H;have A65:=aM A650;clear A650;by_cases c66:(t145 == t147)=true
                ·rw [if_pos c66] at H;have c66b0:(t145 == t147)=true:=c66;(try (have c66b1:decide (t145=t147)=true:=by simpa using c66));(try (have c66b2:(t145 == t147)=true:=by simpa using c66));clear c66
                 as_aux_lemma=>
                  obtain rfl:=Option.some.inj H;go_wp2_with (first|((with_reducible refine Qp (f:=48) rfl ?_);refine goesL_ (some 129) rfl rfl Try.func48 (by kernel_rfl) rfl #[.slice A1 l1.length c1] rfl (by (try simp only [aD,aE,aF]);first|done|rfl|(simp only [aG,aH];rfl)) ?_;(with_reducible refine (spec_DrawOwnersFit.calls kj55 _ _ l1 t138 t139 _ ?side1 ?side2 A63.out).mono ?_);(case side1=>repeat first|exact (Kd.C_below HR1.out HB.out)|(with_reducible first|refine Kd.Qq ?_ _|refine Kd.Qr ?_ _|refine Kd.C_drew ?_));(case side2=>exact HC1.out);rintro e w67 ⟨v140,v142,rfl,ho0,ho1,hb⟩;refine ⟨_,rfl,?_⟩;have n0_:=aM (Kd.R_lower ho0 (Qj (by repeat (with_reducible first|exact HB.out|apply Qc|apply Qa|apply Qb))));have n1_:=aM (Kd.R_lower ho1 (Qj (by repeat (with_reducible first|exact HB.out|apply Qc|apply Qa|apply Qb))));have n2_:=aM (Ql (by repeat (with_reducible first|exact HB.out|apply Qc|apply Qa|apply Qb)) hb);clear HB;have HO141:=n0_;have HO143:=n1_;have HB:=n2_;clear n0_ n1_ n2_;(try clear hb);(try clear hb2);(try clear hk);(try clear hi);(try clear ho0);(try clear ho1);obtain ⟨Ao68,co68,eo68⟩:=Kd.R_slice HO141.out;subst eo68;obtain ⟨Ao69,co69,eo69⟩:=Kd.R_slice HO143.out;subst eo69)|((with_reducible refine Qp (f:=46) rfl ?_);refine goesL_ (some 135) rfl rfl Try.func46 (by kernel_rfl) rfl #[.slice Ao68 t138.length co68,.slice Ao69 t139.length co69] rfl (by (try simp only [aD,aE,aF]);first|done|rfl|(simp only [aG,aH];rfl)) ?_;(with_reducible refine (impl_OwnersFit.calls kj55 _ _ t138 _ _ t139 t144 t145 _ ?side1 ?side2 ?side3 ?side4 A64.out).mono ?_);(case side1=>repeat first|exact (Kd.Qo HO141.out).2.2|(with_reducible first|refine Kd.Qq ?_ _|refine Kd.Qr ?_ _|refine Kd.C_drew ?_));(case side2=>exact (Kd.Qo HO141.out).2.1);(case side3=>repeat first|exact (Kd.Qo HO143.out).2.2|(with_reducible first|refine Kd.Qq ?_ _|refine Kd.Qr ?_ _|refine Kd.C_drew ?_));(case side4=>exact (Kd.Qo HO143.out).2.1);rintro e w70 ⟨rfl,hb⟩;refine ⟨_,rfl,?_⟩;have n0_:=aM (Kd.R_below (by (with_reducible repeat first|apply Kd.Qh|apply Kd.Qi|apply Kd.R_drew);exact HO141.out) hb);have n1_:=aM (Kd.R_below (by (with_reducible repeat first|apply Kd.Qh|apply Kd.Qi|apply Kd.R_drew);exact HO143.out) hb);have n2_:=aM (Ql (by repeat (with_reducible first|exact HB.out|apply Qc|apply Qa|apply Qb)) hb);clear HO141 HO143 HB;have HO141:=n0_;have HO143:=n1_;have HB:=n2_;clear n0_ n1_ n2_ hb)|((with_reducible refine Qp (f:=49) rfl ?_);refine goesL_ (some 141) rfl rfl Try.func49 (by kernel_rfl) rfl #[.slice Ao68 t138.length co68,.slice Ao69 t139.length co69] rfl (by (try simp only [aD,aE,aF]);first|done|rfl|(simp only [aG,aH];rfl)) ?_;(with_reducible refine (spec_OwnersFit.calls kj55 _ _ t138 _ _ t139 t146 t147 _ ?side1 ?side2 ?side3 ?side4 A65.out).mono ?_);(case side1=>repeat first|exact (Kd.Qo HO141.out).2.2|(with_reducible first|refine Kd.Qq ?_ _|refine Kd.Qr ?_ _|refine Kd.C_drew ?_));(case side2=>exact (Kd.Qo HO141.out).2.1);(case side3=>repeat first|exact (Kd.Qo HO143.out).2.2|(with_reducible first|refine Kd.Qq ?_ _|refine Kd.Qr ?_ _|refine Kd.C_drew ?_));(case side4=>exact (Kd.Qo HO143.out).2.1);rintro e w71 ⟨rfl,hb⟩;refine ⟨_,rfl,?_⟩;have n0_:=aM (Kd.R_below (by (with_reducible repeat first|apply Kd.Qh|apply Kd.Qi|apply Kd.R_drew);exact HO141.out) hb);have n1_:=aM (Kd.R_below (by (with_reducible repeat first|apply Kd.Qh|apply Kd.Qi|apply Kd.R_drew);exact HO143.out) hb);have n2_:=aM (Ql (by repeat (with_reducible first|exact HB.out|apply Qc|apply Qa|apply Qb)) hb);clear HO141 HO143 HB;have HO141:=n0_;have HO143:=n1_;have HB:=n2_;clear n0_ n1_ n2_ hb))
                  go_ret
                  exact ⟨by first|rfl|(simp [errW_none,errW_some] <;> rfl)|(simp [*,errW_none,errW_some] <;> rfl),by repeat (with_reducible first|exact HB.out|apply Qc|apply Qa|apply Qb)⟩
                ·rw [if_neg c66] at H;have c66b0:(t145 == t147)=false:=by simpa using c66
                 (try (have c66b1:decide (t145=t147)=false:=by simpa using c66));(try (have c66b2:(t145 == t147)=false:=by simpa using c66));(try (have c66b3: ¬ (t145=t147):=by simpa using c66));clear c66
                 as_aux_lemma=>
                  obtain rfl:=Option.some.inj H;go_wp2_with (first|((with_reducible refine Qp (f:=48) rfl ?_);refine goesL_ (some 129) rfl rfl Try.func48 (by kernel_rfl) rfl #[.slice A1 l1.length c1] rfl (by (try simp only [aD,aE,aF]);first|done|rfl|(simp only [aG,aH];rfl)) ?_;(with_reducible refine (spec_DrawOwnersFit.calls kj55 _ _ l1 t138 t139 _ ?side1 ?side2 A63.out).mono ?_);(case side1=>repeat first|exact (Kd.C_below HR1.out HB.out)|(with_reducible first|refine Kd.Qq ?_ _|refine Kd.Qr ?_ _|refine Kd.C_drew ?_));(case side2=>exact HC1.out);rintro e w72 ⟨v140,v142,rfl,ho0,ho1,hb⟩;refine ⟨_,rfl,?_⟩;have n0_:=aM (Kd.R_lower ho0 (Qj (by repeat (with_reducible first|exact HB.out|apply Qc|apply Qa|apply Qb))));have n1_:=aM (Kd.R_lower ho1 (Qj (by repeat (with_reducible first|exact HB.out|apply Qc|apply Qa|apply Qb))));have n2_:=aM (Ql (by repeat (with_reducible first|exact HB.out|apply Qc|apply Qa|apply Qb)) hb);clear HB;have HO141:=n0_;have HO143:=n1_;have HB:=n2_;clear n0_ n1_ n2_;(try clear hb);(try clear hb2);(try clear hk);(try clear hi);(try clear ho0);(try clear ho1);obtain ⟨Ao73,co73,eo73⟩:=Kd.R_slice HO141.out;subst eo73;obtain ⟨Ao74,co74,eo74⟩:=Kd.R_slice HO143.out;subst eo74)|((with_reducible refine Qp (f:=46) rfl ?_);refine goesL_ (some 135) rfl rfl Try.func46 (by kernel_rfl) rfl #[.slice Ao73 t138.length co73,.slice Ao74 t139.length co74] rfl (by (try simp only [aD,aE,aF]);first|done|rfl|(simp only [aG,aH];rfl)) ?_;(with_reducible refine (impl_OwnersFit.calls kj55 _ _ t138 _ _ t139 t144 t145 _ ?side1 ?side2 ?side3 ?side4 A64.out).mono ?_);(case side1=>repeat first|exact (Kd.Qo HO141.out).2.2|(with_reducible first|refine Kd.Qq ?_ _|refine Kd.Qr ?_ _|refine Kd.C_drew ?_));(case side2=>exact (Kd.Qo HO141.out).2.1);(case side3=>repeat first|exact (Kd.Qo HO143.out).2.2|(with_reducible first|refine Kd.Qq ?_ _|refine Kd.Qr ?_ _|refine Kd.C_drew ?_));(case side4=>exact (Kd.Qo HO143.out).2.1);rintro e w75 ⟨rfl,hb⟩;refine ⟨_,rfl,?_⟩;have n0_:=aM (Kd.R_below (by (with_reducible repeat first|apply Kd.Qh|apply Kd.Qi|apply Kd.R_drew);exact HO141.out) hb);have n1_:=aM (Kd.R_below (by (with_reducible repeat first|apply Kd.Qh|apply Kd.Qi|apply Kd.R_drew);exact HO143.out) hb);have n2_:=aM (Ql (by repeat (with_reducible first|exact HB.out|apply Qc|apply Qa|apply Qb)) hb);clear HO141 HO143 HB;have HO141:=n0_;have HO143:=n1_;have HB:=n2_;clear n0_ n1_ n2_ hb)|((with_reducible refine Qp (f:=49) rfl ?_);refine goesL_ (some 141) rfl rfl Try.func49 (by kernel_rfl) rfl #[.slice Ao73 t138.length co73,.slice Ao74 t139.length co74] rfl (by (try simp only [aD,aE,aF]);first|done|rfl|(simp only [aG,aH];rfl)) ?_;(with_reducible refine (spec_OwnersFit.calls kj55 _ _ t138 _ _ t139 t146 t147 _ ?side1 ?side2 ?side3 ?side4 A65.out).mono ?_);(case side1=>repeat first|exact (Kd.Qo HO141.out).2.2|(with_reducible first|refine Kd.Qq ?_ _|refine Kd.Qr ?_ _|refine Kd.C_drew ?_));(case side2=>exact (Kd.Qo HO141.out).2.1);(case side3=>repeat first|exact (Kd.Qo HO143.out).2.2|(with_reducible first|refine Kd.Qq ?_ _|refine Kd.Qr ?_ _|refine Kd.C_drew ?_));(case side4=>exact (Kd.Qo HO143.out).2.1);rintro e w76 ⟨rfl,hb⟩;refine ⟨_,rfl,?_⟩;have n0_:=aM (Kd.R_below (by (with_reducible repeat first|apply Kd.Qh|apply Kd.Qi|apply Kd.R_drew);exact HO141.out) hb);have n1_:=aM (Kd.R_below (by (with_reducible repeat first|apply Kd.Qh|apply Kd.Qi|apply Kd.R_drew);exact HO143.out) hb);have n2_:=aM (Ql (by repeat (with_reducible first|exact HB.out|apply Qc|apply Qa|apply Qb)) hb);clear HO141 HO143 HB;have HO141:=n0_;have HO143:=n1_;have HB:=n2_;clear n0_ n1_ n2_ hb))
                  go_ret
                  exact ⟨by first|rfl|(simp [errW_none,errW_some] <;> rfl)|(simp [*,errW_none,errW_some] <;> rfl),by repeat (with_reducible first|exact HB.out|apply Qc|apply Qa|apply Qb)⟩
            ·replace c54:=Bool.eq_false_iff.mpr c54;subst c54;have H1:((spec_DrawOwnersFit.f kj51 l1).bind fun bt148=>((impl_OwnersFit.f kj51 bt148.1 bt148.2).bind fun bt154=>((spec_OwnersFit.f kj51 bt148.1 bt148.2).bind fun bt156=>(if (bt154.2 == bt156.2)=true then (some (bt154.1 == bt156.1)) else (some false)))))=some r:=by rw [if_neg (show ¬ (false=true) by decide)] at H;exact H
             clear H;have H:=H1;clear H1;replace H:=Option.bind_eq_some_iff.mp H;obtain ⟨⟨t148,t149⟩,A770,H⟩:=H;replace H:((impl_OwnersFit.f kj51 t148 t149).bind fun bt154=>((spec_OwnersFit.f kj51 t148 t149).bind fun bt156=>(if (bt154.2 == bt156.2)=true then (some (bt154.1 == bt156.1)) else (some false))))=some r:=H;have A77:=aM A770;clear A770;replace H:=Option.bind_eq_some_iff.mp H;obtain ⟨⟨t154,t155⟩,A780,H⟩:=H;replace H:((spec_OwnersFit.f kj51 t148 t149).bind fun bt156=>(if (t155 == bt156.2)=true then (some (t154 == bt156.1)) else (some false)))=some r:=H;have A78:=aM A780;clear A780;replace H:=Option.bind_eq_some_iff.mp H;obtain ⟨⟨t156,t157⟩,A790,H⟩:=H;replace H:(if (t155 == t157)=true then (some (t154 == t156)) else (some false))=some r:=H;have A79:=aM A790;clear A790;by_cases c80:(t155 == t157)=true
             ·rw [if_pos c80] at H;have c80b0:(t155 == t157)=true:=c80;(try (have c80b1:decide (t155=t157)=true:=by simpa using c80));(try (have c80b2:(t155 == t157)=true:=by simpa using c80));clear c80
              as_aux_lemma=>
               obtain rfl:=Option.some.inj H;go_wp2_with (first|((with_reducible refine Qp (f:=48) rfl ?_);refine goesL_ (some 129) rfl rfl Try.func48 (by kernel_rfl) rfl #[.slice A1 l1.length c1] rfl (by (try simp only [aD,aE,aF]);first|done|rfl|(simp only [aG,aH];rfl)) ?_;(with_reducible refine (spec_DrawOwnersFit.calls kj51 _ _ l1 t148 t149 _ ?side1 ?side2 A77.out).mono ?_);(case side1=>repeat first|exact (Kd.C_below HR1.out HB.out)|(with_reducible first|refine Kd.Qq ?_ _|refine Kd.Qr ?_ _|refine Kd.C_drew ?_));(case side2=>exact HC1.out);rintro e w81 ⟨v150,v152,rfl,ho0,ho1,hb⟩;refine ⟨_,rfl,?_⟩;have n0_:=aM (Kd.R_lower ho0 (Qj (by repeat first|(with_reducible first|exact HB.out|apply Qc|apply Qa|apply Qb|refine Qd ?_ GE116.out|refine Qd ?_ GE135.out)|exact HB.out)));have n1_:=aM (Kd.R_lower ho1 (Qj (by repeat first|(with_reducible first|exact HB.out|apply Qc|apply Qa|apply Qb|refine Qd ?_ GE116.out|refine Qd ?_ GE135.out)|exact HB.out)));have n2_:=aM (Qm (g:=gb116) (o:= .cells #[.int .i64 t113,.int .i64 t114] 50 (0,0)) (by (with_reducible repeat first|apply Qf|apply Qg|apply Qe);exact BK116.out) hb);have n3_:=aM (Qm (g:=gb135) (o:= .cells #[.int .i64 t132,.int .i64 t133] 50 (0,0)) (by (with_reducible repeat first|apply Qf|apply Qg|apply Qe);exact BK135.out) hb);have n4_:=aM (Ql (by repeat first|(with_reducible first|exact HB.out|apply Qc|apply Qa|apply Qb|refine Qd ?_ GE116.out|refine Qd ?_ GE135.out)|exact HB.out) hb);clear BK116 BK135 HB;have HO151:=n0_;have HO153:=n1_;have BK116:=n2_;have BK135:=n3_;have HB:=n4_;clear n0_ n1_ n2_ n3_ n4_;(try clear hb);(try clear hb2);(try clear hk);(try clear hi);(try clear ho0);(try clear ho1);obtain ⟨Ao82,co82,eo82⟩:=Kd.R_slice HO151.out;subst eo82;obtain ⟨Ao83,co83,eo83⟩:=Kd.R_slice HO153.out;subst eo83)|((with_reducible refine Qp (f:=46) rfl ?_);refine goesL_ (some 135) rfl rfl Try.func46 (by kernel_rfl) rfl #[.slice Ao82 t148.length co82,.slice Ao83 t149.length co83] rfl (by (try simp only [aD,aE,aF]);first|done|rfl|(simp only [aG,aH];rfl)) ?_;(with_reducible refine (impl_OwnersFit.calls kj51 _ _ t148 _ _ t149 t154 t155 _ ?side1 ?side2 ?side3 ?side4 A78.out).mono ?_);(case side1=>repeat first|exact (Kd.Qo HO151.out).2.2|(with_reducible first|refine Kd.Qq ?_ _|refine Kd.Qr ?_ _|refine Kd.C_drew ?_));(case side2=>exact (Kd.Qo HO151.out).2.1);(case side3=>repeat first|exact (Kd.Qo HO153.out).2.2|(with_reducible first|refine Kd.Qq ?_ _|refine Kd.Qr ?_ _|refine Kd.C_drew ?_));(case side4=>exact (Kd.Qo HO153.out).2.1);rintro e w84 ⟨rfl,hb⟩;refine ⟨_,rfl,?_⟩;have n0_:=aM (Kd.R_below (by (with_reducible repeat first|apply Kd.Qh|apply Kd.Qi|apply Kd.R_drew);exact HO151.out) hb);have n1_:=aM (Kd.R_below (by (with_reducible repeat first|apply Kd.Qh|apply Kd.Qi|apply Kd.R_drew);exact HO153.out) hb);have n2_:=aM (Qm (g:=gb116) (o:= .cells #[.int .i64 t113,.int .i64 t114] 50 (0,0)) (by (with_reducible repeat first|apply Qf|apply Qg|apply Qe);exact BK116.out) hb);have n3_:=aM (Qm (g:=gb135) (o:= .cells #[.int .i64 t132,.int .i64 t133] 50 (0,0)) (by (with_reducible repeat first|apply Qf|apply Qg|apply Qe);exact BK135.out) hb);have n4_:=aM (Ql (by repeat first|(with_reducible first|exact HB.out|apply Qc|apply Qa|apply Qb|refine Qd ?_ GE116.out|refine Qd ?_ GE135.out)|exact HB.out) hb);clear HO151 HO153 BK116 BK135 HB;have HO151:=n0_;have HO153:=n1_;have BK116:=n2_;have BK135:=n3_;have HB:=n4_;clear n0_ n1_ n2_ n3_ n4_ hb)|((with_reducible refine Qp (f:=49) rfl ?_);refine goesL_ (some 141) rfl rfl Try.func49 (by kernel_rfl) rfl #[.slice Ao82 t148.length co82,.slice Ao83 t149.length co83] rfl (by (try simp only [aD,aE,aF]);first|done|rfl|(simp only [aG,aH];rfl)) ?_;(with_reducible refine (spec_OwnersFit.calls kj51 _ _ t148 _ _ t149 t156 t157 _ ?side1 ?side2 ?side3 ?side4 A79.out).mono ?_);(case side1=>repeat first|exact (Kd.Qo HO151.out).2.2|(with_reducible first|refine Kd.Qq ?_ _|refine Kd.Qr ?_ _|refine Kd.C_drew ?_));(case side2=>exact (Kd.Qo HO151.out).2.1);(case side3=>repeat first|exact (Kd.Qo HO153.out).2.2|(with_reducible first|refine Kd.Qq ?_ _|refine Kd.Qr ?_ _|refine Kd.C_drew ?_));(case side4=>exact (Kd.Qo HO153.out).2.1);rintro e w85 ⟨rfl,hb⟩;refine ⟨_,rfl,?_⟩;have n0_:=aM (Kd.R_below (by (with_reducible repeat first|apply Kd.Qh|apply Kd.Qi|apply Kd.R_drew);exact HO151.out) hb);have n1_:=aM (Kd.R_below (by (with_reducible repeat first|apply Kd.Qh|apply Kd.Qi|apply Kd.R_drew);exact HO153.out) hb);have n2_:=aM (Qm (g:=gb116) (o:= .cells #[.int .i64 t113,.int .i64 t114] 50 (0,0)) (by (with_reducible repeat first|apply Qf|apply Qg|apply Qe);exact BK116.out) hb);have n3_:=aM (Qm (g:=gb135) (o:= .cells #[.int .i64 t132,.int .i64 t133] 50 (0,0)) (by (with_reducible repeat first|apply Qf|apply Qg|apply Qe);exact BK135.out) hb);have n4_:=aM (Ql (by repeat first|(with_reducible first|exact HB.out|apply Qc|apply Qa|apply Qb|refine Qd ?_ GE116.out|refine Qd ?_ GE135.out)|exact HB.out) hb);clear HO151 HO153 BK116 BK135 HB;have HO151:=n0_;have HO153:=n1_;have BK116:=n2_;have BK135:=n3_;have HB:=n4_;clear n0_ n1_ n2_ n3_ n4_ hb))
               go_ret
               exact ⟨by first|rfl|(simp [errW_none,errW_some] <;> rfl)|(simp [*,errW_none,errW_some] <;> rfl),by repeat (first|(with_reducible first|exact HB.out|apply Qc|apply Qa|apply Qb|refine Qd ?_ GE116.out|refine Qd ?_ GE135.out)|exact HB.out)⟩
             ·rw [if_neg c80] at H;have c80b0:(t155 == t157)=false:=by simpa using c80
              (try (have c80b1:decide (t155=t157)=false:=by simpa using c80));(try (have c80b2:(t155 == t157)=false:=by simpa using c80));(try (have c80b3: ¬ (t155=t157):=by simpa using c80));clear c80
              as_aux_lemma=>
               obtain rfl:=Option.some.inj H;go_wp2_with (first|((with_reducible refine Qp (f:=48) rfl ?_);refine goesL_ (some 129) rfl rfl Try.func48 (by kernel_rfl) rfl #[.slice A1 l1.length c1] rfl (by (try simp only [aD,aE,aF]);first|done|rfl|(simp only [aG,aH];rfl)) ?_;(with_reducible refine (spec_DrawOwnersFit.calls kj51 _ _ l1 t148 t149 _ ?side1 ?side2 A77.out).mono ?_);(case side1=>repeat first|exact (Kd.C_below HR1.out HB.out)|(with_reducible first|refine Kd.Qq ?_ _|refine Kd.Qr ?_ _|refine Kd.C_drew ?_));(case side2=>exact HC1.out);rintro e w86 ⟨v150,v152,rfl,ho0,ho1,hb⟩;refine ⟨_,rfl,?_⟩;have n0_:=aM (Kd.R_lower ho0 (Qj (by repeat first|(with_reducible first|exact HB.out|apply Qc|apply Qa|apply Qb|refine Qd ?_ GE116.out|refine Qd ?_ GE135.out)|exact HB.out)));have n1_:=aM (Kd.R_lower ho1 (Qj (by repeat first|(with_reducible first|exact HB.out|apply Qc|apply Qa|apply Qb|refine Qd ?_ GE116.out|refine Qd ?_ GE135.out)|exact HB.out)));have n2_:=aM (Qm (g:=gb116) (o:= .cells #[.int .i64 t113,.int .i64 t114] 50 (0,0)) (by (with_reducible repeat first|apply Qf|apply Qg|apply Qe);exact BK116.out) hb);have n3_:=aM (Qm (g:=gb135) (o:= .cells #[.int .i64 t132,.int .i64 t133] 50 (0,0)) (by (with_reducible repeat first|apply Qf|apply Qg|apply Qe);exact BK135.out) hb);have n4_:=aM (Ql (by repeat first|(with_reducible first|exact HB.out|apply Qc|apply Qa|apply Qb|refine Qd ?_ GE116.out|refine Qd ?_ GE135.out)|exact HB.out) hb);clear BK116 BK135 HB;have HO151:=n0_;have HO153:=n1_;have BK116:=n2_;have BK135:=n3_;have HB:=n4_;clear n0_ n1_ n2_ n3_ n4_;(try clear hb);(try clear hb2);(try clear hk);(try clear hi);(try clear ho0);(try clear ho1);obtain ⟨Ao87,co87,eo87⟩:=Kd.R_slice HO151.out;subst eo87;obtain ⟨Ao88,co88,eo88⟩:=Kd.R_slice HO153.out;subst eo88)|((with_reducible refine Qp (f:=46) rfl ?_);refine goesL_ (some 135) rfl rfl Try.func46 (by kernel_rfl) rfl #[.slice Ao87 t148.length co87,.slice Ao88 t149.length co88] rfl (by (try simp only [aD,aE,aF]);first|done|rfl|(simp only [aG,aH];rfl)) ?_;(with_reducible refine (impl_OwnersFit.calls kj51 _ _ t148 _ _ t149 t154 t155 _ ?side1 ?side2 ?side3 ?side4 A78.out).mono ?_);(case side1=>repeat first|exact (Kd.Qo HO151.out).2.2|(with_reducible first|refine Kd.Qq ?_ _|refine Kd.Qr ?_ _|refine Kd.C_drew ?_));(case side2=>exact (Kd.Qo HO151.out).2.1);(case side3=>repeat first|exact (Kd.Qo HO153.out).2.2|(with_reducible first|refine Kd.Qq ?_ _|refine Kd.Qr ?_ _|refine Kd.C_drew ?_));(case side4=>exact (Kd.Qo HO153.out).2.1);rintro e w89 ⟨rfl,hb⟩;refine ⟨_,rfl,?_⟩;have n0_:=aM (Kd.R_below (by (with_reducible repeat first|apply Kd.Qh|apply Kd.Qi|apply Kd.R_drew);exact HO151.out) hb);have n1_:=aM (Kd.R_below (by (with_reducible repeat first|apply Kd.Qh|apply Kd.Qi|apply Kd.R_drew);exact HO153.out) hb);have n2_:=aM (Qm (g:=gb116) (o:= .cells #[.int .i64 t113,.int .i64 t114] 50 (0,0)) (by (with_reducible repeat first|apply Qf|apply Qg|apply Qe);exact BK116.out) hb);have n3_:=aM (Qm (g:=gb135) (o:= .cells #[.int .i64 t132,.int .i64 t133] 50 (0,0)) (by (with_reducible repeat first|apply Qf|apply Qg|apply Qe);exact BK135.out) hb);have n4_:=aM (Ql (by repeat first|(with_reducible first|exact HB.out|apply Qc|apply Qa|apply Qb|refine Qd ?_ GE116.out|refine Qd ?_ GE135.out)|exact HB.out) hb);clear HO151 HO153 BK116 BK135 HB;have HO151:=n0_;have HO153:=n1_;have BK116:=n2_;have BK135:=n3_;have HB:=n4_;clear n0_ n1_ n2_ n3_ n4_ hb)|((with_reducible refine Qp (f:=49) rfl ?_);refine goesL_ (some 141) rfl rfl Try.func49 (by kernel_rfl) rfl #[.slice Ao87 t148.length co87,.slice Ao88 t149.length co88] rfl (by (try simp only [aD,aE,aF]);first|done|rfl|(simp only [aG,aH];rfl)) ?_;(with_reducible refine (spec_OwnersFit.calls kj51 _ _ t148 _ _ t149 t156 t157 _ ?side1 ?side2 ?side3 ?side4 A79.out).mono ?_);(case side1=>repeat first|exact (Kd.Qo HO151.out).2.2|(with_reducible first|refine Kd.Qq ?_ _|refine Kd.Qr ?_ _|refine Kd.C_drew ?_));(case side2=>exact (Kd.Qo HO151.out).2.1);(case side3=>repeat first|exact (Kd.Qo HO153.out).2.2|(with_reducible first|refine Kd.Qq ?_ _|refine Kd.Qr ?_ _|refine Kd.C_drew ?_));(case side4=>exact (Kd.Qo HO153.out).2.1);rintro e w90 ⟨rfl,hb⟩;refine ⟨_,rfl,?_⟩;have n0_:=aM (Kd.R_below (by (with_reducible repeat first|apply Kd.Qh|apply Kd.Qi|apply Kd.R_drew);exact HO151.out) hb);have n1_:=aM (Kd.R_below (by (with_reducible repeat first|apply Kd.Qh|apply Kd.Qi|apply Kd.R_drew);exact HO153.out) hb);have n2_:=aM (Qm (g:=gb116) (o:= .cells #[.int .i64 t113,.int .i64 t114] 50 (0,0)) (by (with_reducible repeat first|apply Qf|apply Qg|apply Qe);exact BK116.out) hb);have n3_:=aM (Qm (g:=gb135) (o:= .cells #[.int .i64 t132,.int .i64 t133] 50 (0,0)) (by (with_reducible repeat first|apply Qf|apply Qg|apply Qe);exact BK135.out) hb);have n4_:=aM (Ql (by repeat first|(with_reducible first|exact HB.out|apply Qc|apply Qa|apply Qb|refine Qd ?_ GE116.out|refine Qd ?_ GE135.out)|exact HB.out) hb);clear HO151 HO153 BK116 BK135 HB;have HO151:=n0_;have HO153:=n1_;have BK116:=n2_;have BK135:=n3_;have HB:=n4_;clear n0_ n1_ n2_ n3_ n4_ hb))
               go_ret
               exact ⟨by first|rfl|(simp [errW_none,errW_some] <;> rfl)|(simp [*,errW_none,errW_some] <;> rfl),by repeat (first|(with_reducible first|exact HB.out|apply Qc|apply Qa|apply Qb|refine Qd ?_ GE116.out|refine Qd ?_ GE135.out)|exact HB.out)⟩
      ·replace c40:=Bool.eq_false_iff.mpr c40;subst c40;have H1:((spec_DrawOwnersFit.f kj8 l1).bind fun bt158=>((impl_OwnersFit.f kj8 bt158.1 bt158.2).bind fun bt164=>((spec_OwnersFit.f kj8 bt158.1 bt158.2).bind fun bt166=>(if (bt164.2 == bt166.2)=true then (some (bt164.1 == bt166.1)) else (some false)))))=some r:=by rw [if_neg (show ¬ (false=true) by decide)] at H;exact H
       clear H;have H:=H1;clear H1;replace H:=Option.bind_eq_some_iff.mp H;obtain ⟨⟨t158,t159⟩,A910,H⟩:=H;replace H:((impl_OwnersFit.f kj8 t158 t159).bind fun bt164=>((spec_OwnersFit.f kj8 t158 t159).bind fun bt166=>(if (bt164.2 == bt166.2)=true then (some (bt164.1 == bt166.1)) else (some false))))=some r:=H;have A91:=aM A910;clear A910;replace H:=Option.bind_eq_some_iff.mp H;obtain ⟨⟨t164,t165⟩,A920,H⟩:=H;replace H:((spec_OwnersFit.f kj8 t158 t159).bind fun bt166=>(if (t165 == bt166.2)=true then (some (t164 == bt166.1)) else (some false)))=some r:=H;have A92:=aM A920;clear A920;replace H:=Option.bind_eq_some_iff.mp H;obtain ⟨⟨t166,t167⟩,A930,H⟩:=H;replace H:(if (t165 == t167)=true then (some (t164 == t166)) else (some false))=some r:=H;have A93:=aM A930;clear A930;by_cases c94:(t165 == t167)=true
       ·rw [if_pos c94] at H;have c94b0:(t165 == t167)=true:=c94;(try (have c94b1:decide (t165=t167)=true:=by simpa using c94));(try (have c94b2:(t165 == t167)=true:=by simpa using c94));clear c94
        as_aux_lemma=>
         obtain rfl:=Option.some.inj H;go_wp2_with (first|((with_reducible refine Qp (f:=48) rfl ?_);refine goesL_ (some 129) rfl rfl Try.func48 (by kernel_rfl) rfl #[.slice A1 l1.length c1] rfl (by (try simp only [aD,aE,aF]);first|done|rfl|(simp only [aG,aH];rfl)) ?_;(with_reducible refine (spec_DrawOwnersFit.calls kj8 _ _ l1 t158 t159 _ ?side1 ?side2 A91.out).mono ?_);(case side1=>repeat first|exact (Kd.C_below HR1.out HB.out)|(with_reducible first|refine Kd.Qq ?_ _|refine Kd.Qr ?_ _|refine Kd.C_drew ?_));(case side2=>exact HC1.out);rintro e w95 ⟨v160,v162,rfl,ho0,ho1,hb⟩;refine ⟨_,rfl,?_⟩;have n0_:=aM (Kd.R_mono (Kd.R_told (Kd.R_told (Kd.R_old (by (with_reducible repeat first|apply Kd.Qh|apply Kd.Qi|apply Kd.R_drew);exact HO_5.out) hb) (Kd.R_base ho0)) (Kd.R_base ho1)) (fun _ h_=>h_.1));have n1_:=aM (Kd.R_mono (Kd.R_told (Kd.R_told (Kd.R_old (by (with_reducible repeat first|apply Kd.Qh|apply Kd.Qi|apply Kd.R_drew);exact HO_6.out) hb) (Kd.R_base ho0)) (Kd.R_base ho1)) (fun _ h_=>h_.1));have n2_:=aM (Kd.R_mono (Kd.R_told (Kd.R_told (Kd.R_old (by (with_reducible repeat first|apply Kd.Qh|apply Kd.Qi|apply Kd.R_drew);exact HO_7.out) hb) (Kd.R_base ho0)) (Kd.R_base ho1)) (fun _ h_=>h_.1));have n3_:=aM (Kd.R_mono (Kd.R_told (Kd.R_told (Kd.R_old (by (with_reducible repeat first|apply Kd.Qh|apply Kd.Qi|apply Kd.R_drew);exact HO_13.out) hb) (Kd.R_base ho0)) (Kd.R_base ho1)) (fun _ h_=>h_.1));have n4_:=aM (Kd.R_lower (Kd.R_new' (Kd.R_new' (Kd.R_new' (Kd.R_new' ho0 (Kd.R_lt (by (with_reducible repeat first|apply Kd.Qh|apply Kd.Qi|apply Kd.R_drew);exact HO_5.out))) (Kd.R_lt (by (with_reducible repeat first|apply Kd.Qh|apply Kd.Qi|apply Kd.R_drew);exact HO_6.out))) (Kd.R_lt (by (with_reducible repeat first|apply Kd.Qh|apply Kd.Qi|apply Kd.R_drew);exact HO_7.out))) (Kd.R_lt (by (with_reducible repeat first|apply Kd.Qh|apply Kd.Qi|apply Kd.R_drew);exact HO_13.out))) (Qj (by repeat first|(with_reducible first|exact HB.out|apply Qc|apply Qa|apply Qb|refine Qd ?_ GE116.out)|exact HB.out)));have n5_:=aM (Kd.R_lower (Kd.R_new' (Kd.R_new' (Kd.R_new' (Kd.R_new' ho1 (Kd.R_lt (by (with_reducible repeat first|apply Kd.Qh|apply Kd.Qi|apply Kd.R_drew);exact HO_5.out))) (Kd.R_lt (by (with_reducible repeat first|apply Kd.Qh|apply Kd.Qi|apply Kd.R_drew);exact HO_6.out))) (Kd.R_lt (by (with_reducible repeat first|apply Kd.Qh|apply Kd.Qi|apply Kd.R_drew);exact HO_7.out))) (Kd.R_lt (by (with_reducible repeat first|apply Kd.Qh|apply Kd.Qi|apply Kd.R_drew);exact HO_13.out))) (Qj (by repeat first|(with_reducible first|exact HB.out|apply Qc|apply Qa|apply Qb|refine Qd ?_ GE116.out)|exact HB.out)));have n6_:=aM (Qm (g:=gb116) (o:= .cells #[.int .i64 t113,.int .i64 t114] 50 (0,0)) (by (with_reducible repeat first|apply Qf|apply Qg|apply Qe);exact BK116.out) hb);have n7_:=aM (Ql (by repeat first|(with_reducible first|exact HB.out|apply Qc|apply Qa|apply Qb|refine Qd ?_ GE116.out)|exact HB.out) hb);clear HO_5 HO_6 HO_7 HO_13 BK116 HB;have HO_5:=n0_;have HO_6:=n1_;have HO_7:=n2_;have HO_13:=n3_;have HO161:=n4_;have HO163:=n5_;have BK116:=n6_;have HB:=n7_;clear n0_ n1_ n2_ n3_ n4_ n5_ n6_ n7_;(try clear hb);(try clear hb2);(try clear hk);(try clear hi);(try clear ho0);(try clear ho1);obtain ⟨Ao96,co96,eo96⟩:=Kd.R_slice HO161.out;subst eo96;obtain ⟨Ao97,co97,eo97⟩:=Kd.R_slice HO163.out;subst eo97)|((with_reducible refine Qp (f:=46) rfl ?_);refine goesL_ (some 135) rfl rfl Try.func46 (by kernel_rfl) rfl #[.slice Ao96 t158.length co96,.slice Ao97 t159.length co97] rfl (by (try simp only [aD,aE,aF]);first|done|rfl|(simp only [aG,aH];rfl)) ?_;(with_reducible refine (impl_OwnersFit.calls kj8 _ _ t158 _ _ t159 t164 t165 _ ?side1 ?side2 ?side3 ?side4 A92.out).mono ?_);(case side1=>repeat first|exact (Kd.Qo HO161.out).2.2|(with_reducible first|refine Kd.Qq ?_ _|refine Kd.Qr ?_ _|refine Kd.C_drew ?_));(case side2=>exact (Kd.Qo HO161.out).2.1);(case side3=>repeat first|exact (Kd.Qo HO163.out).2.2|(with_reducible first|refine Kd.Qq ?_ _|refine Kd.Qr ?_ _|refine Kd.C_drew ?_));(case side4=>exact (Kd.Qo HO163.out).2.1);rintro e w98 ⟨rfl,hb⟩;refine ⟨_,rfl,?_⟩;have n0_:=aM (Kd.R_below (by (with_reducible repeat first|apply Kd.Qh|apply Kd.Qi|apply Kd.R_drew);exact HO_5.out) hb);have n1_:=aM (Kd.R_below (by (with_reducible repeat first|apply Kd.Qh|apply Kd.Qi|apply Kd.R_drew);exact HO_6.out) hb);have n2_:=aM (Kd.R_below (by (with_reducible repeat first|apply Kd.Qh|apply Kd.Qi|apply Kd.R_drew);exact HO_7.out) hb);have n3_:=aM (Kd.R_below (by (with_reducible repeat first|apply Kd.Qh|apply Kd.Qi|apply Kd.R_drew);exact HO_13.out) hb);have n4_:=aM (Kd.R_below (by (with_reducible repeat first|apply Kd.Qh|apply Kd.Qi|apply Kd.R_drew);exact HO161.out) hb);have n5_:=aM (Kd.R_below (by (with_reducible repeat first|apply Kd.Qh|apply Kd.Qi|apply Kd.R_drew);exact HO163.out) hb);have n6_:=aM (Qm (g:=gb116) (o:= .cells #[.int .i64 t113,.int .i64 t114] 50 (0,0)) (by (with_reducible repeat first|apply Qf|apply Qg|apply Qe);exact BK116.out) hb);have n7_:=aM (Ql (by repeat first|(with_reducible first|exact HB.out|apply Qc|apply Qa|apply Qb|refine Qd ?_ GE116.out)|exact HB.out) hb);clear HO_5 HO_6 HO_7 HO_13 HO161 HO163 BK116 HB;have HO_5:=n0_;have HO_6:=n1_;have HO_7:=n2_;have HO_13:=n3_;have HO161:=n4_;have HO163:=n5_;have BK116:=n6_;have HB:=n7_;clear n0_ n1_ n2_ n3_ n4_ n5_ n6_ n7_ hb)|((with_reducible refine Qp (f:=49) rfl ?_);refine goesL_ (some 141) rfl rfl Try.func49 (by kernel_rfl) rfl #[.slice Ao96 t158.length co96,.slice Ao97 t159.length co97] rfl (by (try simp only [aD,aE,aF]);first|done|rfl|(simp only [aG,aH];rfl)) ?_;(with_reducible refine (spec_OwnersFit.calls kj8 _ _ t158 _ _ t159 t166 t167 _ ?side1 ?side2 ?side3 ?side4 A93.out).mono ?_);(case side1=>repeat first|exact (Kd.Qo HO161.out).2.2|(with_reducible first|refine Kd.Qq ?_ _|refine Kd.Qr ?_ _|refine Kd.C_drew ?_));(case side2=>exact (Kd.Qo HO161.out).2.1);(case side3=>repeat first|exact (Kd.Qo HO163.out).2.2|(with_reducible first|refine Kd.Qq ?_ _|refine Kd.Qr ?_ _|refine Kd.C_drew ?_));(case side4=>exact (Kd.Qo HO163.out).2.1);rintro e w99 ⟨rfl,hb⟩;refine ⟨_,rfl,?_⟩;have n0_:=aM (Kd.R_below (by (with_reducible repeat first|apply Kd.Qh|apply Kd.Qi|apply Kd.R_drew);exact HO_5.out) hb);have n1_:=aM (Kd.R_below (by (with_reducible repeat first|apply Kd.Qh|apply Kd.Qi|apply Kd.R_drew);exact HO_6.out) hb);have n2_:=aM (Kd.R_below (by (with_reducible repeat first|apply Kd.Qh|apply Kd.Qi|apply Kd.R_drew);exact HO_7.out) hb);have n3_:=aM (Kd.R_below (by (with_reducible repeat first|apply Kd.Qh|apply Kd.Qi|apply Kd.R_drew);exact HO_13.out) hb);have n4_:=aM (Kd.R_below (by (with_reducible repeat first|apply Kd.Qh|apply Kd.Qi|apply Kd.R_drew);exact HO161.out) hb);have n5_:=aM (Kd.R_below (by (with_reducible repeat first|apply Kd.Qh|apply Kd.Qi|apply Kd.R_drew);exact HO163.out) hb);have n6_:=aM (Qm (g:=gb116) (o:= .cells #[.int .i64 t113,.int .i64 t114] 50 (0,0)) (by (with_reducible repeat first|apply Qf|apply Qg|apply Qe);exact BK116.out) hb);have n7_:=aM (Ql (by repeat first|(with_reducible first|exact HB.out|apply Qc|apply Qa|apply Qb|refine Qd ?_ GE116.out)|exact HB.out) hb);clear HO_5 HO_6 HO_7 HO_13 HO161 HO163 BK116 HB;have HO_5:=n0_;have HO_6:=n1_;have HO_7:=n2_;have HO_13:=n3_;have HO161:=n4_;have HO163:=n5_;have BK116:=n6_;have HB:=n7_;clear n0_ n1_ n2_ n3_ n4_ n5_ n6_ n7_ hb))
         go_ret
         exact ⟨by first|rfl|(simp [errW_none,errW_some] <;> rfl)|(simp [*,errW_none,errW_some] <;> rfl),by repeat (first|(with_reducible first|exact HB.out|apply Qc|apply Qa|apply Qb|refine Qd ?_ GE116.out)|exact HB.out)⟩
       ·rw [if_neg c94] at H;have c94b0:(t165 == t167)=false:=by simpa using c94
        (try (have c94b1:decide (t165=t167)=false:=by simpa using c94));(try (have c94b2:(t165 == t167)=false:=by simpa using c94));(try (have c94b3: ¬ (t165=t167):=by simpa using c94));clear c94
        as_aux_lemma=>
         obtain rfl:=Option.some.inj H;go_wp2_with (first|((with_reducible refine Qp (f:=48) rfl ?_);refine goesL_ (some 129) rfl rfl Try.func48 (by kernel_rfl) rfl #[.slice A1 l1.length c1] rfl (by (try simp only [aD,aE,aF]);first|done|rfl|(simp only [aG,aH];rfl)) ?_;(with_reducible refine (spec_DrawOwnersFit.calls kj8 _ _ l1 t158 t159 _ ?side1 ?side2 A91.out).mono ?_);(case side1=>repeat first|exact (Kd.C_below HR1.out HB.out)|(with_reducible first|refine Kd.Qq ?_ _|refine Kd.Qr ?_ _|refine Kd.C_drew ?_));(case side2=>exact HC1.out);rintro e w100 ⟨v160,v162,rfl,ho0,ho1,hb⟩;refine ⟨_,rfl,?_⟩;have n0_:=aM (Kd.R_mono (Kd.R_told (Kd.R_told (Kd.R_old (by (with_reducible repeat first|apply Kd.Qh|apply Kd.Qi|apply Kd.R_drew);exact HO_5.out) hb) (Kd.R_base ho0)) (Kd.R_base ho1)) (fun _ h_=>h_.1));have n1_:=aM (Kd.R_mono (Kd.R_told (Kd.R_told (Kd.R_old (by (with_reducible repeat first|apply Kd.Qh|apply Kd.Qi|apply Kd.R_drew);exact HO_6.out) hb) (Kd.R_base ho0)) (Kd.R_base ho1)) (fun _ h_=>h_.1));have n2_:=aM (Kd.R_mono (Kd.R_told (Kd.R_told (Kd.R_old (by (with_reducible repeat first|apply Kd.Qh|apply Kd.Qi|apply Kd.R_drew);exact HO_7.out) hb) (Kd.R_base ho0)) (Kd.R_base ho1)) (fun _ h_=>h_.1));have n3_:=aM (Kd.R_mono (Kd.R_told (Kd.R_told (Kd.R_old (by (with_reducible repeat first|apply Kd.Qh|apply Kd.Qi|apply Kd.R_drew);exact HO_13.out) hb) (Kd.R_base ho0)) (Kd.R_base ho1)) (fun _ h_=>h_.1));have n4_:=aM (Kd.R_lower (Kd.R_new' (Kd.R_new' (Kd.R_new' (Kd.R_new' ho0 (Kd.R_lt (by (with_reducible repeat first|apply Kd.Qh|apply Kd.Qi|apply Kd.R_drew);exact HO_5.out))) (Kd.R_lt (by (with_reducible repeat first|apply Kd.Qh|apply Kd.Qi|apply Kd.R_drew);exact HO_6.out))) (Kd.R_lt (by (with_reducible repeat first|apply Kd.Qh|apply Kd.Qi|apply Kd.R_drew);exact HO_7.out))) (Kd.R_lt (by (with_reducible repeat first|apply Kd.Qh|apply Kd.Qi|apply Kd.R_drew);exact HO_13.out))) (Qj (by repeat first|(with_reducible first|exact HB.out|apply Qc|apply Qa|apply Qb|refine Qd ?_ GE116.out)|exact HB.out)));have n5_:=aM (Kd.R_lower (Kd.R_new' (Kd.R_new' (Kd.R_new' (Kd.R_new' ho1 (Kd.R_lt (by (with_reducible repeat first|apply Kd.Qh|apply Kd.Qi|apply Kd.R_drew);exact HO_5.out))) (Kd.R_lt (by (with_reducible repeat first|apply Kd.Qh|apply Kd.Qi|apply Kd.R_drew);exact HO_6.out))) (Kd.R_lt (by (with_reducible repeat first|apply Kd.Qh|apply Kd.Qi|apply Kd.R_drew);exact HO_7.out))) (Kd.R_lt (by (with_reducible repeat first|apply Kd.Qh|apply Kd.Qi|apply Kd.R_drew);exact HO_13.out))) (Qj (by repeat first|(with_reducible first|exact HB.out|apply Qc|apply Qa|apply Qb|refine Qd ?_ GE116.out)|exact HB.out)));have n6_:=aM (Qm (g:=gb116) (o:= .cells #[.int .i64 t113,.int .i64 t114] 50 (0,0)) (by (with_reducible repeat first|apply Qf|apply Qg|apply Qe);exact BK116.out) hb);have n7_:=aM (Ql (by repeat first|(with_reducible first|exact HB.out|apply Qc|apply Qa|apply Qb|refine Qd ?_ GE116.out)|exact HB.out) hb);clear HO_5 HO_6 HO_7 HO_13 BK116 HB;have HO_5:=n0_;have HO_6:=n1_;have HO_7:=n2_;have HO_13:=n3_;have HO161:=n4_;have HO163:=n5_;have BK116:=n6_;have HB:=n7_;clear n0_ n1_ n2_ n3_ n4_ n5_ n6_ n7_;(try clear hb);(try clear hb2);(try clear hk);(try clear hi);(try clear ho0);(try clear ho1);obtain ⟨Ao101,co101,eo101⟩:=Kd.R_slice HO161.out;subst eo101;obtain ⟨Ao102,co102,eo102⟩:=Kd.R_slice HO163.out;subst eo102)|((with_reducible refine Qp (f:=46) rfl ?_);refine goesL_ (some 135) rfl rfl Try.func46 (by kernel_rfl) rfl #[.slice Ao101 t158.length co101,.slice Ao102 t159.length co102] rfl (by (try simp only [aD,aE,aF]);first|done|rfl|(simp only [aG,aH];rfl)) ?_;(with_reducible refine (impl_OwnersFit.calls kj8 _ _ t158 _ _ t159 t164 t165 _ ?side1 ?side2 ?side3 ?side4 A92.out).mono ?_);(case side1=>repeat first|exact (Kd.Qo HO161.out).2.2|(with_reducible first|refine Kd.Qq ?_ _|refine Kd.Qr ?_ _|refine Kd.C_drew ?_));(case side2=>exact (Kd.Qo HO161.out).2.1);(case side3=>repeat first|exact (Kd.Qo HO163.out).2.2|(with_reducible first|refine Kd.Qq ?_ _|refine Kd.Qr ?_ _|refine Kd.C_drew ?_));(case side4=>exact (Kd.Qo HO163.out).2.1);rintro e w103 ⟨rfl,hb⟩;refine ⟨_,rfl,?_⟩;have n0_:=aM (Kd.R_below (by (with_reducible repeat first|apply Kd.Qh|apply Kd.Qi|apply Kd.R_drew);exact HO_5.out) hb);have n1_:=aM (Kd.R_below (by (with_reducible repeat first|apply Kd.Qh|apply Kd.Qi|apply Kd.R_drew);exact HO_6.out) hb);have n2_:=aM (Kd.R_below (by (with_reducible repeat first|apply Kd.Qh|apply Kd.Qi|apply Kd.R_drew);exact HO_7.out) hb);have n3_:=aM (Kd.R_below (by (with_reducible repeat first|apply Kd.Qh|apply Kd.Qi|apply Kd.R_drew);exact HO_13.out) hb);have n4_:=aM (Kd.R_below (by (with_reducible repeat first|apply Kd.Qh|apply Kd.Qi|apply Kd.R_drew);exact HO161.out) hb);have n5_:=aM (Kd.R_below (by (with_reducible repeat first|apply Kd.Qh|apply Kd.Qi|apply Kd.R_drew);exact HO163.out) hb);have n6_:=aM (Qm (g:=gb116) (o:= .cells #[.int .i64 t113,.int .i64 t114] 50 (0,0)) (by (with_reducible repeat first|apply Qf|apply Qg|apply Qe);exact BK116.out) hb);have n7_:=aM (Ql (by repeat first|(with_reducible first|exact HB.out|apply Qc|apply Qa|apply Qb|refine Qd ?_ GE116.out)|exact HB.out) hb);clear HO_5 HO_6 HO_7 HO_13 HO161 HO163 BK116 HB;have HO_5:=n0_;have HO_6:=n1_;have HO_7:=n2_;have HO_13:=n3_;have HO161:=n4_;have HO163:=n5_;have BK116:=n6_;have HB:=n7_;clear n0_ n1_ n2_ n3_ n4_ n5_ n6_ n7_ hb)|((with_reducible refine Qp (f:=49) rfl ?_);refine goesL_ (some 141) rfl rfl Try.func49 (by kernel_rfl) rfl #[.slice Ao101 t158.length co101,.slice Ao102 t159.length co102] rfl (by (try simp only [aD,aE,aF]);first|done|rfl|(simp only [aG,aH];rfl)) ?_;(with_reducible refine (spec_OwnersFit.calls kj8 _ _ t158 _ _ t159 t166 t167 _ ?side1 ?side2 ?side3 ?side4 A93.out).mono ?_);(case side1=>repeat first|exact (Kd.Qo HO161.out).2.2|(with_reducible first|refine Kd.Qq ?_ _|refine Kd.Qr ?_ _|refine Kd.C_drew ?_));(case side2=>exact (Kd.Qo HO161.out).2.1);(case side3=>repeat first|exact (Kd.Qo HO163.out).2.2|(with_reducible first|refine Kd.Qq ?_ _|refine Kd.Qr ?_ _|refine Kd.C_drew ?_));(case side4=>exact (Kd.Qo HO163.out).2.1);rintro e w104 ⟨rfl,hb⟩;refine ⟨_,rfl,?_⟩;have n0_:=aM (Kd.R_below (by (with_reducible repeat first|apply Kd.Qh|apply Kd.Qi|apply Kd.R_drew);exact HO_5.out) hb);have n1_:=aM (Kd.R_below (by (with_reducible repeat first|apply Kd.Qh|apply Kd.Qi|apply Kd.R_drew);exact HO_6.out) hb);have n2_:=aM (Kd.R_below (by (with_reducible repeat first|apply Kd.Qh|apply Kd.Qi|apply Kd.R_drew);exact HO_7.out) hb);have n3_:=aM (Kd.R_below (by (with_reducible repeat first|apply Kd.Qh|apply Kd.Qi|apply Kd.R_drew);exact HO_13.out) hb);have n4_:=aM (Kd.R_below (by (with_reducible repeat first|apply Kd.Qh|apply Kd.Qi|apply Kd.R_drew);exact HO161.out) hb);have n5_:=aM (Kd.R_below (by (with_reducible repeat first|apply Kd.Qh|apply Kd.Qi|apply Kd.R_drew);exact HO163.out) hb);have n6_:=aM (Qm (g:=gb116) (o:= .cells #[.int .i64 t113,.int .i64 t114] 50 (0,0)) (by (with_reducible repeat first|apply Qf|apply Qg|apply Qe);exact BK116.out) hb);have n7_:=aM (Ql (by repeat first|(with_reducible first|exact HB.out|apply Qc|apply Qa|apply Qb|refine Qd ?_ GE116.out)|exact HB.out) hb);clear HO_5 HO_6 HO_7 HO_13 HO161 HO163 BK116 HB;have HO_5:=n0_;have HO_6:=n1_;have HO_7:=n2_;have HO_13:=n3_;have HO161:=n4_;have HO163:=n5_;have BK116:=n6_;have HB:=n7_;clear n0_ n1_ n2_ n3_ n4_ n5_ n6_ n7_ hb))
         go_ret
         exact ⟨by first|rfl|(simp [errW_none,errW_some] <;> rfl)|(simp [*,errW_none,errW_some] <;> rfl),by repeat (first|(with_reducible first|exact HB.out|apply Qc|apply Qa|apply Qb|refine Qd ?_ GE116.out)|exact HB.out)⟩

/-- THE ONE PURE STATEMENT of laws_FnSlots:yours. -/
def laws_FnSlots.Pure:Prop:=∀ (l0:List Int) (l1:List Int),l0.length≤maxLen→l0.length * 1≤140737488351232→(∀ x ∈ l0,(Lit.int .u8 x).wf=true)→l1.length≤maxLen→l1.length * 1≤140737488351232→(∀ x ∈ l1,(Lit.int .u8 x).wf=true)→∃ k,laws_FnSlots.f k l0 l1=some true
theorem laws_FnSlots.walk (P:laws_FnSlots.Pure) (a0:Option Addr) (len0 cap0:Nat) (z0:List Int) (a1:Option Addr) (len1 cap1:Nat) (z1:List Int) (w:World) (w0:(a0=none∧len0=0∧cap0=0∧z0=[])∨∃ x,a0=some x∧len0≤cap0∧cap0≤maxLen∧z0.length=cap0∧(∀ i,i<z0.length→w.cell? (x.add i)=some (.int .u8 (z0.getD i 0)))∧∀ n ∈ z0,(Lit.int .u8 n).wf=true) (y0:len0 * 1≤140737488351232) (w1:(a1=none∧len1=0∧cap1=0∧z1=[])∨∃ x,a1=some x∧len1≤cap1∧cap1≤maxLen∧z1.length=cap1∧(∀ i,i<z1.length→w.cell? (x.add i)=some (.int .u8 (z1.getD i 0)))∧∀ n ∈ z1,(Lit.int .u8 n).wf=true) (y1:len1 * 1≤140737488351232) :
    Calls Try.prog 5 #[.slice a0 len0 cap0,.slice a1 len1 cap1] w fun e w'=>e= .returned (.bool true)∧Below w.heap.size w w':=by
  obtain ⟨l0,rfl,hr0,hm0,hw0,hc0⟩:=ReadsInt.ofRowC w0;obtain ⟨l1,rfl,hr1,hm1,hw1,hc1⟩:=ReadsInt.ofRowC w1;obtain ⟨k,h⟩:=P l0 l1 hm0 y0 hw0 hm1 y1 hw1;refine (laws_FnSlots.calls k _ _ l0 _ _ l1 true w (Kd.C_of_reads (d:=(0:Int)) (h1:=fun _=>rfl) hr0) hc0 (Kd.C_of_reads (d:=(0:Int)) (h1:=fun _=>rfl) hr1) hc1 h).mono ?_
  rintro e w' ⟨rfl,hd⟩
  exact ⟨rfl,hd⟩
end Go.Proofs.Ytneojimdhnhkeaa.Print
namespace Go.Proofs.Ytneojimdhnhkeaa.Pure
open Go.RowKit Go.Proofs.Ytneojimdhnhkeaa.Print Go.Proofs.YtneojimdhnhkeaaW.PrintWords Go.Proofs.YtneojimdhnhkeaaW.PrintLast Go.Proofs.YtneojimdhnhkeaaW.PrintMore

theorem Ev.of_eq {α : Type} {g : Nat → Option α} {r : α} (h : ∀ k, g k = some r) : Ev g r := ⟨0, fun k _ => h k⟩
theorem Ev.bind0 {α β : Type} {o : Option α} {f : Nat → α → Option β} {a : α} {r : β} (h : o = some a) (k : Ev (fun n => f n a) r) : Ev (fun n => o.bind (f n)) r := by
  subst h; exact k
theorem Ev.pos {α : Type} {c : Prop} [Decidable c] {g f : Nat → Option α} {r : α} (h : c) (k : Ev g r) : Ev (fun n => if c then g n else f n) r := by
  simpa only [if_pos h] using k
theorem Ev.neg {α : Type} {c : Prop} [Decidable c] {g f : Nat → Option α} {r : α} (h : ¬ c) (k : Ev f r) : Ev (fun n => if c then g n else f n) r := by
  simpa only [if_neg h] using k
theorem Ev.ite {α : Type} {c : Prop} [Decidable c] {g f : Nat → Option α} {r : α} (h : c → Ev g r) (k : ¬ c → Ev f r) : Ev (fun n => if c then g n else f n) r := by
  by_cases hc : c
  · exact Ev.pos hc (h hc)
  · exact Ev.neg hc (k hc)
theorem Ev.step0 {α : Type} {g f : Nat → Option α} {r : α} (k : Ev f r) (h : ∀ k, g (k + 1) = f k) : Ev g r := Ev.step h k
theorem Ev.to {α : Type} {g : Nat → Option α} {r s : α} (k : Ev g r) (h : r = s) : Ev g s := h ▸ k
theorem ev_up {β : Type} (n : Nat) (g : Nat → Nat → Option β) (r : β) (I : Nat → Prop) (h0 : I 0)
    (hend : I n → Ev (fun k => g k n) r) (hstep : ∀ i, i < n → I i → (I (i + 1) → Ev (fun k => g k (i + 1)) r) → Ev (fun k => g k i) r) : Ev (fun k => g k 0) r := by
  have h : ∀ d i, i + d = n → I i → Ev (fun k => g k i) r := by
    intro d
    induction d with
    | zero => intro i hi hI; obtain rfl : i = n := by omega
              exact hend hI
    | succ d ih => intro i hi hI; exact hstep i (by omega) hI fun hI' => ih (i + 1) (by omega) hI'
  exact h n 0 (by omega) h0
theorem w64 {x : Int} (h1 : -9223372036854775808 ≤ x) (h2 : x < 9223372036854775808) : wrap64 x = x := by unfold wrap64; omega
theorem rd_nat (l : List Int) (i : Nat) (h : i < l.length) : rd l (i : Int) = l[i] := by simp [rd, h]
theorem toNat_nat (i : Nat) : ((i : Int)).toNat = i := Int.toNat_natCast i
theorem lt_len {α : Type} {l : List α} {i : Nat} (h : i < l.length) : (i : Int) < (l.length : Int) := by omega
def allIn (l : List Int) (lo hi : Int) : Bool := l.all fun x => decide (lo ≤ x) && decide (x ≤ hi)
theorem allIn_iff (l : List Int) (lo hi : Int) : allIn l lo hi = true ↔ ∀ x ∈ l, lo ≤ x ∧ x ≤ hi := by
  simp [allIn, List.all_eq_true]
theorem all_take_false {α : Type} (l : List α) (p : α → Bool) (i : Nat) (h : i < l.length) (hp : p l[i] = false) : l.all p = false := by
  rw [List.all_eq_false]; exact ⟨l[i], List.getElem_mem h, by simp [hp]⟩
theorem all_take_succ {α : Type} (l : List α) (p : α → Bool) (i : Nat) (h : i < l.length) (ht : (l.take i).all p = true) (hp : p l[i] = true) : (l.take (i + 1)).all p = true := by
  rw [List.take_succ_eq_append_getElem h, List.all_append, ht]; simp [hp]
theorem sum_take_succ (l : List Int) (i : Nat) (h : i < l.length) : (l.take (i + 1)).sum = (l.take i).sum + l[i] := by
  rw [List.take_succ_eq_append_getElem h, List.sum_append]; simp
theorem sum_bounds (l : List Int) (lo hi : Int) (h : ∀ x ∈ l, lo ≤ x ∧ x ≤ hi) : lo * l.length ≤ l.sum ∧ l.sum ≤ hi * l.length := by
  induction l with
  | nil => simp
  | cons a l ih =>
    have h1 := h a (by simp)
    have h2 := ih fun x hx => h x (by simp [hx])
    simp only [List.sum_cons, List.length_cons]
    have e1 : lo * ((l.length + 1 : Nat) : Int) = lo * l.length + lo := by push_cast; rw [Int.mul_add]; simp
    have e2 : hi * ((l.length + 1 : Nat) : Int) = hi * l.length + hi := by push_cast; rw [Int.mul_add]; simp
    rw [e1, e2]; omega
theorem Ev.succ {α : Type} {g : Nat → Option α} {r : α} (h : Ev (fun k => g (k + 1)) r) : Ev g r := Ev.step (fun _ => rfl) h
theorem exists_nat_of_nonneg {x : Int} (h : 0 ≤ x) : ∃ n : Nat, x = n := ⟨x.toNat, by omega⟩

def bytesOk (l : List Int) : Prop := ∀ x ∈ l, 0 ≤ x ∧ x ≤ 255
theorem wf_u8 {x : Int} (h : (Lit.int .u8 x).wf = true) : 0 ≤ x ∧ x ≤ 255 := by
  have h' : decide (IntKind.u8.min ≤ x) && decide (x ≤ IntKind.u8.max) := h
  simp only [Bool.and_eq_true, decide_eq_true_eq] at h'
  have e1 : IntKind.u8.min = 0 := by decide
  have e2 : IntKind.u8.max = 255 := by decide
  omega
theorem bytesOk_of (l : List Int) (h : ∀ x ∈ l, (Lit.int .u8 x).wf = true) : bytesOk l := fun x hx => wf_u8 (h x hx)
theorem u64_range (x : Int) : 0 ≤ IntKind.u64.wrap x ∧ IntKind.u64.wrap x < 18446744073709551616 := by
  have e : IntKind.u64.wrap x = x % 18446744073709551616 := by simp [IntKind.wrap, IntKind.bits, IntKind.signed]
  rw [e]; omega
theorem and_255 (x : Int) (h0 : 0 ≤ x) (h1 : x < 18446744073709551616) : 0 ≤ Go.bits .and .u64 x 255 ∧ Go.bits .and .u64 x 255 ≤ 255 := by
  obtain ⟨n, rfl⟩ := exists_nat_of_nonneg h0
  have e : Go.bits .and .u64 (n : Int) ((255 : Nat) : Int) = ((n &&& 255 : Nat) : Int) := u64_and_nat n 255 (by omega) (by omega)
  have h2 : n &&& 255 ≤ 255 := Nat.and_le_right
  have e' : Go.bits .and .u64 (n : Int) 255 = ((n &&& 255 : Nat) : Int) := e
  rw [e']; omega
theorem rd_mem_or (l : List Int) (i : Int) (h0 : 0 ≤ i) (h : i < l.length) : rd l i ∈ l := by
  obtain ⟨n, rfl⟩ := exists_nat_of_nonneg h0
  rw [rd_nat l n (by omega)]; exact List.getElem_mem _

theorem cur_next (l : List Int) (a s : Int) (hl : bytesOk l) (ha : 0 ≤ a ∧ a ≤ 4611686018427387904) :
    ∃ b s', spec_l1Cur_next.f l a s = some (b, a + 1, s') ∧ 0 ≤ b ∧ b ≤ 255 := by
  have hmask : ∀ y : Int, 0 ≤ wrap64 (Go.bits .and .u64 ((IntKind.u64.wrap y) / 1099511627776) 255) ∧ wrap64 (Go.bits .and .u64 ((IntKind.u64.wrap y) / 1099511627776) 255) ≤ 255 := fun y => by
    have h1 := u64_range y
    have h2 := and_255 ((IntKind.u64.wrap y) / 1099511627776) (by omega) (by omega)
    rw [w64 (by omega) (by omega)]; exact h2
  unfold spec_l1Cur_next.f
  rw [w64 (x := a + 1) (by omega) (by omega)]
  by_cases h1 : a < (l.length : Int)
  · have hb := hl _ (rd_mem_or l a ha.1 h1)
    rw [if_pos h1, if_pos ha.1]
    by_cases h2 : a + 1 ≤ (l.length : Int)
    · rw [if_pos h2]; exact ⟨_, _, rfl, by rw [w64 (by omega) (by omega)]; exact hb⟩
    · rw [if_neg h2]; exact ⟨_, _, rfl, hmask _⟩
  · rw [if_neg h1]
    by_cases h2 : a + 1 ≤ (l.length : Int)
    · rw [if_pos h2]; exact ⟨_, _, rfl, by omega⟩
    · rw [if_neg h2]; exact ⟨_, _, rfl, hmask _⟩

theorem cur_pick (l : List Int) (a s n : Int) (hl : bytesOk l) (ha : 0 ≤ a ∧ a ≤ 4611686018427387900) :
    ∃ r a' s', spec_l1Cur_pick.f l a s n = some (r, a', s') ∧ 0 ≤ r ∧ (r < n ∨ n ≤ 1 ∧ r = 0) ∧ a ≤ a' ∧ a' ≤ a + 2 := by
  unfold spec_l1Cur_pick.f
  by_cases h : n ≤ 1
  · rw [if_pos h]; exact ⟨0, a, s, rfl, by omega, .inr ⟨h, rfl⟩, by omega, by omega⟩
  · rw [if_neg h]
    obtain ⟨b, s1, e1, hb⟩ := cur_next l a s hl (by omega)
    rw [e1]; simp only [Option.bind_some]
    by_cases h2 : n > 200
    · rw [if_pos h2]
      obtain ⟨c, s2, e2, hc⟩ := cur_next l (a + 1) s1 hl (by omega)
      rw [e2]; simp only [Option.bind_some]; rw [if_neg (by omega), w64 (x := b * 256) (by omega) (by omega), w64 (by omega) (by omega)]
      exact ⟨_, _, _, rfl, Int.tmod_nonneg _ (by omega), .inl (Int.tmod_lt_of_pos _ (by omega)), by omega, by omega⟩
    · rw [if_neg h2, if_neg (by omega)]
      exact ⟨_, _, _, rfl, Int.tmod_nonneg _ (by omega), .inl (Int.tmod_lt_of_pos _ (by omega)), by omega, by omega⟩

theorem cur_one (l : List Int) (a s n : Int) (hl : bytesOk l) (ha : 0 ≤ a ∧ a ≤ 4611686018427387900) :
    ∃ r a' s', spec_l1Cur_one.f l a s n = some (r, a', s') ∧ a ≤ a' ∧ a' ≤ a + 2 := by
  unfold spec_l1Cur_one.f
  obtain ⟨r, a', s', e, h0, h1, h2, h3⟩ := cur_pick l a s n hl ha
  rw [e]; exact ⟨_, _, _, rfl, h2, h3⟩

theorem spec_l1In_eq (n lo hi : Int) : spec_l1In.f n lo hi = some (decide (lo ≤ n) && decide (n ≤ hi)) := by
  unfold spec_l1In.f
  by_cases h : n ≥ lo
  · rw [if_pos h, decide_eq_true (show lo ≤ n from h)]; simp
  · rw [if_neg h, decide_eq_false (show ¬ lo ≤ n from h)]; simp

theorem impl_within_eq (n lo hi : Int) : impl_within.f n lo hi = some (decide (lo ≤ n) && decide (n ≤ hi)) := by
  unfold impl_within.f
  by_cases h : n ≥ lo
  · rw [if_pos h, decide_eq_true (show lo ≤ n from h)]; simp
  · rw [if_neg h, decide_eq_false (show ¬ lo ≤ n from h)]; simp

theorem spec_l1All_ev (l : List Int) (lo hi : Int) (hl : l.length < 4611686018427387904) : Ev (fun k => spec_l1All.f k l lo hi) (allIn l lo hi) := by
  unfold spec_l1All.f
  refine ev_up l.length (fun k i => spec_l1All.l0 k lo hi l (l.length : Int) (i : Int)) _ (fun i => allIn (l.take i) lo hi = true) (by simp [allIn]) ?_ ?_
  · intro hI
    refine Ev.step0 (Ev.of_eq fun _ => rfl) fun k => ?_
    simp only [spec_l1All.l0]; rw [if_neg (by omega)]
    rw [List.take_length] at hI; rw [hI]
  · intro i hi' hI hn
    cases hb : (decide (lo ≤ l[i]) && decide (l[i] ≤ hi)) with
    | true =>
      refine Ev.step0 (hn (all_take_succ l _ i hi' hI hb)) fun k => ?_
      simp only [spec_l1All.l0]; rw [if_pos (lt_len hi'), if_pos (by omega), if_pos (lt_len hi'), rd_nat l i hi', spec_l1In_eq, hb]
      simp only [Option.bind_some, if_true]; rw [w64 (by omega) (by omega)]; rfl
    | false =>
      refine Ev.step0 (Ev.of_eq fun _ => rfl) fun k => ?_
      simp only [spec_l1All.l0]; rw [if_pos (lt_len hi'), if_pos (by omega), if_pos (lt_len hi'), rd_nat l i hi', spec_l1In_eq, hb]
      simp only [Option.bind_some]; rw [if_neg (by decide)]
      rw [show allIn l lo hi = false from all_take_false l _ i hi' hb]

theorem impl_allWithin_ev (l : List Int) (lo hi : Int) (hl : l.length < 4611686018427387904) : Ev (fun k => impl_allWithin.f k l lo hi) (allIn l lo hi) := by
  unfold impl_allWithin.f sl1_ContainsFunc.f sl3_IndexFunc.f
  have key : ∃ j : Int, decide (j ≥ 0) = !(allIn l lo hi) ∧ Ev (fun k => sl3_IndexFunc.l0 k l (l.length : Int) 0 lo hi) j := by
    have hc : ∀ x : Int, impl_allWithin_1.f x lo hi = some (!(decide (lo ≤ x) && decide (x ≤ hi))) := fun x => by
      unfold impl_allWithin_1.f; rw [impl_within_eq]; rfl
    cases ha : allIn l lo hi with
    | true =>
      refine ⟨-1, by decide, ?_⟩
      refine ev_up l.length (fun k i => sl3_IndexFunc.l0 k l (l.length : Int) (i : Int) lo hi) _ (fun _ => True) trivial ?_ ?_
      · intro _
        refine Ev.step0 (Ev.of_eq fun _ => rfl) fun k => ?_
        simp only [sl3_IndexFunc.l0]; rw [if_neg (by omega)]
      · intro i hi' _ hn
        have hb := (allIn_iff l lo hi).mp ha l[i] (List.getElem_mem hi')
        refine Ev.step0 (hn trivial) fun k => ?_
        simp only [sl3_IndexFunc.l0]; rw [if_pos (lt_len hi'), if_pos (by omega), if_pos (lt_len hi'), rd_nat l i hi', hc, decide_eq_true hb.1, decide_eq_true hb.2]
        simp only [Option.bind_some]; rw [if_neg (by decide), w64 (by omega) (by omega)]; rfl
    | false =>
      have : ∃ i : Nat, i < l.length ∧ Ev (fun k => sl3_IndexFunc.l0 k l (l.length : Int) 0 lo hi) (i : Int) := by
        obtain ⟨i, hi', hp, hlt⟩ : ∃ i : Nat, ∃ h : i < l.length, (decide (lo ≤ l[i]) && decide (l[i] ≤ hi)) = false ∧ ∀ j, ∀ hj : j < i, (decide (lo ≤ l[j]) && decide (l[j] ≤ hi)) = true := by
          have h1 : ∃ i : Nat, ∃ h : i < l.length, (decide (lo ≤ l[i]) && decide (l[i] ≤ hi)) = false := by
            unfold allIn at ha
            rw [List.all_eq_false] at ha
            obtain ⟨x, hx, hp⟩ := ha
            obtain ⟨i, hi', rfl⟩ := List.getElem_of_mem hx
            exact ⟨i, hi', by simpa using hp⟩
          obtain ⟨m, hm, hmin⟩ := exists_least h1
          obtain ⟨hm1, hm2⟩ := hm
          refine ⟨m, hm1, hm2, fun j hj => ?_⟩
          cases hq : (decide (lo ≤ l[j]) && decide (l[j] ≤ hi)) with
          | true => rfl
          | false => have := hmin j ⟨by omega, hq⟩; omega
        refine ⟨i, hi', ?_⟩
        refine ev_up i (fun k i => sl3_IndexFunc.l0 k l (l.length : Int) (i : Int) lo hi) _ (fun _ => True) trivial ?_ ?_
        · intro _
          refine Ev.step0 (Ev.of_eq fun _ => rfl) fun k => ?_
          simp only [sl3_IndexFunc.l0]; rw [if_pos (lt_len hi'), if_pos (by omega), if_pos (lt_len hi'), rd_nat l i hi', hc, hp]
          simp
        · intro j hj _ hn
          have hj' : j < l.length := by omega
          refine Ev.step0 (hn trivial) fun k => ?_
          simp only [sl3_IndexFunc.l0]; rw [if_pos (lt_len hj'), if_pos (by omega), if_pos (lt_len hj'), rd_nat l j hj', hc, hlt j hj]
          simp only [Option.bind_some]; rw [if_neg (by decide), w64 (by omega) (by omega)]; rfl
      obtain ⟨i, _, hi2⟩ := this
      exact ⟨i, by simp, hi2⟩
  obtain ⟨j, hj, hev⟩ := key
  refine Ev.to (Ev.bind (Ev.bind hev (Ev.now _)) (Ev.now _)) ?_
  rw [hj]; simp

theorem spec_l3Sum_ev (l : List Int) (lo hi : Int) (h : ∀ x ∈ l, lo ≤ x ∧ x ≤ hi) (hlo : -1048576 ≤ lo) (hhi : hi ≤ 1073741824) (hl : l.length ≤ 1048576) : Ev (fun k => spec_l3Sum.f k l) l.sum := by
  unfold spec_l3Sum.f
  refine ev_up l.length (fun k i => spec_l3Sum.l0 k (l.take i).sum l (l.length : Int) (i : Int)) _ (fun _ => True) trivial ?_ ?_
  · intro _
    refine Ev.step0 (Ev.of_eq fun _ => rfl) fun k => ?_
    simp only [spec_l3Sum.l0]; rw [if_neg (by omega), List.take_length]
  · intro i hi' _ hn
    have hs := sum_take_succ l i hi'
    have hb := sum_bounds (l.take (i + 1)) (-1048576) 1073741824 fun x hx => by have := h x (List.mem_of_mem_take hx); omega
    have hlen : (l.take (i + 1)).length ≤ 1048576 := by rw [List.length_take]; omega
    refine Ev.step0 (hn trivial) fun k => ?_
    simp only [spec_l3Sum.l0]; rw [if_pos (lt_len hi'), if_pos (by omega), if_pos (lt_len hi'), rd_nat l i hi', ← hs, w64 (by omega) (by omega), w64 (by omega) (by omega)]; rfl

theorem impl_sum_ev (l : List Int) (lo hi : Int) (h : ∀ x ∈ l, lo ≤ x ∧ x ≤ hi) (hlo : -1048576 ≤ lo) (hhi : hi ≤ 1073741824) (hl : l.length ≤ 1048576) : Ev (fun k => impl_sum.f k l) l.sum := by
  unfold impl_sum.f
  refine ev_up l.length (fun k i => impl_sum.l0 k (l.take i).sum l (l.length : Int) (i : Int)) _ (fun _ => True) trivial ?_ ?_
  · intro _
    refine Ev.step0 (Ev.of_eq fun _ => rfl) fun k => ?_
    simp only [impl_sum.l0]; rw [if_neg (by omega), List.take_length]
  · intro i hi' _ hn
    have hs := sum_take_succ l i hi'
    have hb := sum_bounds (l.take (i + 1)) (-1048576) 1073741824 fun x hx => by have := h x (List.mem_of_mem_take hx); omega
    have hlen : (l.take (i + 1)).length ≤ 1048576 := by rw [List.length_take]; omega
    refine Ev.step0 (hn trivial) fun k => ?_
    simp only [impl_sum.l0]; rw [if_pos (lt_len hi'), if_pos (by omega), if_pos (lt_len hi'), rd_nat l i hi', ← hs, w64 (by omega) (by omega), w64 (by omega) (by omega)]; rfl

theorem natAbs_tmod (a b : Int) : (Int.tmod a b).natAbs = a.natAbs % b.natAbs := by
  rw [Int.natAbs_tmod]
theorem tmod_bounds (a b : Int) (hb : b ≠ 0) : -(b.natAbs : Int) < Int.tmod a b ∧ Int.tmod a b < b.natAbs := by
  have h := natAbs_tmod a b
  have h2 : a.natAbs % b.natAbs < b.natAbs := Nat.mod_lt _ (Int.natAbs_pos.mpr hb)
  omega
theorem gcd_step (a b : Int) : Int.gcd b (Int.tmod a b) = Int.gcd a b := by
  unfold Int.gcd
  rw [natAbs_tmod, Nat.gcd_comm b.natAbs, ← Nat.gcd_rec, Nat.gcd_comm]
theorem gcd_le (a b m : Int) (h : a ≠ 0 ∨ b ≠ 0) (ha : -m ≤ a ∧ a ≤ m) (hb : -m ≤ b ∧ b ≤ m) : 1 ≤ (Int.gcd a b : Int) ∧ (Int.gcd a b : Int) ≤ m := by
  have hpos : 0 < Int.gcd a b := by
    rcases Nat.eq_zero_or_pos (Int.gcd a b) with h0 | h0
    · rw [Int.gcd_eq_zero_iff] at h0; omega
    · exact h0
  refine ⟨by omega, ?_⟩
  rcases h with h | h
  · have := Nat.le_of_dvd (Int.natAbs_pos.mpr h) (Int.gcd_dvd_natAbs_left a b); omega
  · have := Nat.le_of_dvd (Int.natAbs_pos.mpr h) (Int.gcd_dvd_natAbs_right a b); omega

theorem spec_l1Abs_eq (a : Int) (h : -9223372036854775808 < a ∧ a < 9223372036854775808) : spec_l1Abs.f a = some (a.natAbs : Int) := by
  unfold spec_l1Abs.f
  by_cases h0 : a < 0
  · rw [if_pos h0, w64 (by omega) (by omega)]; congr 1; omega
  · rw [if_neg h0]; congr 1; omega
theorem spec_l1Gcd_ev (a b : Int) (ha : -9223372036854775808 < a ∧ a < 9223372036854775808) (hb : -9223372036854775808 < b ∧ b < 9223372036854775808) : Ev (fun k => spec_l1Gcd.f k a b) (Int.gcd a b : Int) := by
  unfold spec_l1Gcd.f
  refine Ev.bind0 (spec_l1Abs_eq a ha) (Ev.bind0 (spec_l1Abs_eq b hb) ?_)
  have key : ∀ (n m : Nat), Ev (fun k => spec_l1Gcd.l0 k (m : Int) (n : Int)) (Nat.gcd m n : Int) := by
    intro n
    induction n using Nat.strongRecOn with
    | _ n ih =>
      intro m
      rcases Nat.eq_zero_or_pos n with h0 | h0
      · subst h0
        refine Ev.step0 (Ev.of_eq fun _ => rfl) fun k => ?_
        simp only [spec_l1Gcd.l0]; rw [if_neg (by omega)]; simp
      · have h1 := ih (m % n) (Nat.mod_lt _ h0) n
        refine Ev.to (Ev.step0 h1 fun k => ?_) ?_
        · simp only [spec_l1Gcd.l0]; rw [if_pos (by omega), if_neg (by omega)]; rfl
        · rw [Nat.gcd_comm n, ← Nat.gcd_rec, Nat.gcd_comm]
  exact key b.natAbs a.natAbs

theorem mx_abs (a : Int) (h : -9223372036854775808 < a ∧ a < 9223372036854775808) : mx a (wrap64 (-a)) = (a.natAbs : Int) := by
  rw [w64 (by omega) (by omega)]; unfold mx; split <;> omega
theorem impl_divisor_ev (a b : Int) (ha : -9223372036854775808 < a ∧ a < 9223372036854775808) (hb : -9223372036854775808 < b ∧ b < 9223372036854775808) : Ev (fun k => impl_divisor.f k a b) (Int.gcd a b : Int) := by
  unfold impl_divisor.f
  have key : ∀ (n : Nat) (a b : Int), b.natAbs = n → (-9223372036854775808 < a ∧ a < 9223372036854775808) → (-9223372036854775808 < b ∧ b < 9223372036854775808) → Ev (fun k => impl_divisor.l0 k a b) (Int.gcd a b : Int) := by
    intro n
    induction n using Nat.strongRecOn with
    | _ n ih =>
      intro a b hn ha hb
      by_cases h0 : b = 0
      · subst h0
        refine Ev.step0 (Ev.of_eq fun _ => rfl) fun k => ?_
        simp only [impl_divisor.l0]; rw [if_true, mx_abs a ha]; simp
      · have hm := tmod_bounds a b h0
        have h1 := ih (Int.tmod a b).natAbs (by omega) b (Int.tmod a b) rfl hb (by omega)
        refine Ev.to (Ev.step0 h1 fun k => ?_) (by rw [gcd_step])
        simp only [impl_divisor.l0]; rw [if_neg h0]
  exact key _ a b rfl ha hb

def lowNum (a b : Int) : Int := if b < 0 then Int.tdiv (-a) (Int.gcd a b) else Int.tdiv a (Int.gcd a b)
def lowDen (a b : Int) : Int := if b < 0 then Int.tdiv (-b) (Int.gcd a b) else Int.tdiv b (Int.gcd a b)
theorem tdiv_small (a g m : Int) (hg : 1 ≤ g) (h : -m ≤ a ∧ a ≤ m) : -m ≤ Int.tdiv a g ∧ Int.tdiv a g ≤ m := by
  have h1 : (Int.tdiv a g).natAbs ≤ a.natAbs := by
    rw [Int.natAbs_tdiv]; exact Nat.div_le_self _ _
  omega

theorem spec_l1Make_ev (a b : Int) (ha : -9223372036854775808 < a ∧ a < 9223372036854775808) (hb : -9223372036854775808 < b ∧ b < 9223372036854775808) (h0 : b ≠ 0) : Ev (fun k => spec_l1Make.f k a b) (lowNum a b, lowDen a b) := by
  unfold spec_l1Make.f lowNum lowDen
  have hg := gcd_le a b 9223372036854775807 (.inr h0) (by omega) (by omega)
  refine Ev.ite (fun h => ?_) (fun h => ?_)
  · rw [if_pos h, if_pos h, w64 (x := -a) (by omega) (by omega), w64 (x := -b) (by omega) (by omega)]
    have e : Int.gcd (-a) (-b) = Int.gcd a b := by simp [Int.gcd]
    refine Ev.bind (Ev.to (spec_l1Gcd_ev (-a) (-b) (by omega) (by omega)) (by rw [e])) (Ev.neg (by omega) (Ev.of_eq fun _ => ?_))
    have h1 := tdiv_small (-a) (Int.gcd a b) 9223372036854775807 hg.1 (by omega)
    have h2 := tdiv_small (-b) (Int.gcd a b) 9223372036854775807 hg.1 (by omega)
    rw [w64 (by omega) (by omega), w64 (by omega) (by omega)]
  · rw [if_neg h, if_neg h]
    refine Ev.bind (spec_l1Gcd_ev a b ha hb) (Ev.neg (by omega) (Ev.of_eq fun _ => ?_))
    have h1 := tdiv_small a (Int.gcd a b) 9223372036854775807 hg.1 (by omega)
    have h2 := tdiv_small b (Int.gcd a b) 9223372036854775807 hg.1 (by omega)
    rw [w64 (by omega) (by omega), w64 (by omega) (by omega)]

def goodFrac (a b : Int) : Bool := decide (-1000000000 ≤ a) && decide (a ≤ 1000000000) && (decide (1 ≤ b) && decide (b ≤ 1000000000)) && decide (Int.gcd a b = 1)
theorem goodFrac_iff (a b : Int) : goodFrac a b = true ↔ (-1000000000 ≤ a ∧ a ≤ 1000000000) ∧ (1 ≤ b ∧ b ≤ 1000000000) ∧ Int.gcd a b = 1 := by
  simp [goodFrac, and_assoc]

theorem impl_GoodFrac_ev (a b : Int) : Ev (fun k => impl_GoodFrac.f k a b) (goodFrac a b) := by
  unfold impl_GoodFrac.f goodFrac
  refine Ev.bind0 (impl_within_eq _ _ _) ?_
  by_cases h1 : -1000000000 ≤ a ∧ a ≤ 1000000000
  · rw [decide_eq_true h1.1, decide_eq_true h1.2]
    refine Ev.pos rfl (Ev.bind0 (impl_within_eq _ _ _) ?_)
    by_cases h2 : 1 ≤ b ∧ b ≤ 1000000000
    · rw [decide_eq_true h2.1, decide_eq_true h2.2]
      refine Ev.pos rfl (Ev.to (Ev.bind (impl_divisor_ev a b (by omega) (by omega)) (Ev.now _)) ?_)
      simp only [Bool.and_self, Bool.true_and]
      rw [Bool.eq_iff_iff]; simp; omega
    · refine Ev.neg (by simpa using fun h => by omega) (Ev.of_eq fun _ => ?_)
      have : (decide (1 ≤ b) && decide (b ≤ 1000000000)) = false := by simpa using fun h => by omega
      rw [this]; simp
  · refine Ev.neg (by simpa using fun h => by omega) (Ev.of_eq fun _ => ?_)
    have : (decide (-1000000000 ≤ a) && decide (a ≤ 1000000000)) = false := by simpa using fun h => by omega
    rw [this]; simp

theorem spec_GoodFrac_ev (a b : Int) : Ev (fun k => spec_GoodFrac.f k a b) (goodFrac a b) := by
  unfold spec_GoodFrac.f goodFrac
  refine Ev.bind0 (spec_l1In_eq _ _ _) ?_
  by_cases h1 : -1000000000 ≤ a ∧ a ≤ 1000000000
  · rw [decide_eq_true h1.1, decide_eq_true h1.2]
    refine Ev.pos rfl (Ev.bind0 (spec_l1In_eq _ _ _) ?_)
    by_cases h2 : 1 ≤ b ∧ b ≤ 1000000000
    · rw [decide_eq_true h2.1, decide_eq_true h2.2]
      refine Ev.pos rfl (Ev.to (Ev.bind (spec_l1Gcd_ev a b (by omega) (by omega)) (Ev.now _)) ?_)
      simp only [Bool.and_self, Bool.true_and]
      rw [Bool.eq_iff_iff]; simp; omega
    · refine Ev.neg (by simpa using fun h => by omega) (Ev.of_eq fun _ => ?_)
      have : (decide (1 ≤ b) && decide (b ≤ 1000000000)) = false := by simpa using fun h => by omega
      rw [this]; simp
  · refine Ev.neg (by simpa using fun h => by omega) (Ev.of_eq fun _ => ?_)
    have : (decide (-1000000000 ≤ a) && decide (a ≤ 1000000000)) = false := by simpa using fun h => by omega
    rw [this]; simp

theorem impl_lowest_ev (a b : Int) (ha : -9223372036854775808 < a ∧ a < 9223372036854775808) (hb : -9223372036854775808 < b ∧ b < 9223372036854775808) (h0 : b ≠ 0) :
    Ev (fun k => impl_lowest.f k a b) (if goodFrac (lowNum a b) (lowDen a b) = true then (lowNum a b, lowDen a b, true) else (0, 0, false)) := by
  unfold impl_lowest.f lowNum lowDen
  have hg := gcd_le a b 9223372036854775807 (.inr h0) (by omega) (by omega)
  refine Ev.bind (impl_divisor_ev a b ha hb) ?_
  refine Ev.ite (fun h => ?_) (fun h => ?_)
  · rw [if_pos h, if_pos h, w64 (x := -(Int.gcd a b : Int)) (by omega) (by omega)]
    have h1 := tdiv_small (-a) (Int.gcd a b) 9223372036854775807 hg.1 (by omega)
    have h2 := tdiv_small (-b) (Int.gcd a b) 9223372036854775807 hg.1 (by omega)
    have e1 : Int.tdiv a (-(Int.gcd a b : Int)) = Int.tdiv (-a) (Int.gcd a b) := by rw [Int.tdiv_neg, Int.neg_tdiv]
    have e2 : Int.tdiv b (-(Int.gcd a b : Int)) = Int.tdiv (-b) (Int.gcd a b) := by rw [Int.tdiv_neg, Int.neg_tdiv]
    refine Ev.neg (by omega) ?_
    rw [e1, e2, w64 (by omega) (by omega), w64 (by omega) (by omega)]
    refine Ev.bind (impl_GoodFrac_ev _ _) ?_
    refine Ev.ite (fun hq => ?_) (fun hq => ?_)
    · rw [if_pos hq]; exact Ev.now _
    · rw [if_neg hq]; exact Ev.now _
  · rw [if_neg h, if_neg h]
    have h1 := tdiv_small a (Int.gcd a b) 9223372036854775807 hg.1 (by omega)
    have h2 := tdiv_small b (Int.gcd a b) 9223372036854775807 hg.1 (by omega)
    refine Ev.neg (by omega) ?_
    rw [w64 (by omega) (by omega), w64 (by omega) (by omega)]
    refine Ev.bind (impl_GoodFrac_ev _ _) ?_
    refine Ev.ite (fun hq => ?_) (fun hq => ?_)
    · rw [if_pos hq]; exact Ev.now _
    · rw [if_neg hq]; exact Ev.now _

theorem low_gcd (a b : Int) (h : 0 < b) : Int.gcd (lowNum a b) (lowDen a b) = 1 := by
  unfold lowNum lowDen
  rw [if_neg (by omega), if_neg (by omega)]
  unfold Int.gcd
  have hpos : 0 < Nat.gcd a.natAbs b.natAbs := Nat.gcd_pos_of_pos_right _ (by omega)
  rw [Int.natAbs_tdiv, Int.natAbs_tdiv, Int.natAbs_natCast]
  exact Nat.gcd_div_gcd_div_gcd_of_pos_right (by omega)
theorem low_den_pos (a b : Int) (h : 0 < b) : 1 ≤ lowDen a b ∧ lowDen a b ≤ b := by
  unfold lowDen
  rw [if_neg (by omega)]
  have hg := gcd_le a b b (.inr (by omega))
  obtain ⟨n, rfl⟩ := exists_nat_of_nonneg (Int.le_of_lt h)
  have hd : Int.gcd a (n : Int) ∣ n := by have := Int.gcd_dvd_natAbs_right a (n : Int); simpa using this
  have hp : 0 < Int.gcd a (n : Int) := Nat.pos_of_dvd_of_pos hd (by omega)
  rw [show Int.tdiv (n : Int) (Int.gcd a (n : Int) : Int) = ((n / Int.gcd a (n : Int) : Nat) : Int) from rfl]
  have h1 : 1 ≤ n / Int.gcd a (n : Int) := Nat.div_pos (Nat.le_of_dvd (by omega) hd) hp
  have h2 : n / Int.gcd a (n : Int) ≤ n := Nat.div_le_self _ _
  omega
theorem low_num_le (a b m : Int) (h : 0 < b) (ha : -m ≤ a ∧ a ≤ m) : -m ≤ lowNum a b ∧ lowNum a b ≤ m := by
  unfold lowNum
  rw [if_neg (by omega)]
  have hp : 0 < Int.gcd a b := by
    rcases Nat.eq_zero_or_pos (Int.gcd a b) with h0 | h0
    · rw [Int.gcd_eq_zero_iff] at h0; omega
    · exact h0
  exact tdiv_small a _ m (by omega) ha
theorem low_good (a b : Int) (ha : -1000000000 ≤ a ∧ a ≤ 1000000000) (hb : 1 ≤ b ∧ b ≤ 1000000000) : goodFrac (lowNum a b) (lowDen a b) = true := by
  rw [goodFrac_iff]
  have h1 := low_num_le a b 1000000000 (by omega) ha
  have h2 := low_den_pos a b (by omega)
  exact ⟨h1, ⟨h2.1, by omega⟩, low_gcd a b (by omega)⟩
theorem low_cross (a b : Int) (h : 0 < b) : lowNum a b * b = a * lowDen a b := by
  unfold lowNum lowDen
  rw [if_neg (by omega), if_neg (by omega)]
  have h1 : (Int.gcd a b : Int) * Int.tdiv a (Int.gcd a b) = a := Int.mul_tdiv_cancel' (Int.gcd_dvd_left a b)
  have h2 : (Int.gcd a b : Int) * Int.tdiv b (Int.gcd a b) = b := Int.mul_tdiv_cancel' (Int.gcd_dvd_right a b)
  generalize Int.tdiv a (Int.gcd a b) = p at h1 ⊢
  generalize Int.tdiv b (Int.gcd a b) = q at h2 ⊢
  rw [← h1]
  conv => lhs; rw [← h2]
  rw [Int.mul_assoc, Int.mul_comm p, Int.mul_assoc, Int.mul_comm q p]

def flowOk (flow : List Int) : Bool := decide (1 ≤ (flow.length : Int)) && decide ((flow.length : Int) ≤ 8) && allIn flow 1 30
def countsOk (flow counts : List Int) : Bool := flowOk flow && (decide ((counts.length : Int) = (flow.length : Int)) && (allIn counts 1 40 && decide (counts.sum ≤ 40)))
theorem flowOk_iff (flow : List Int) : flowOk flow = true ↔ (1 ≤ flow.length ∧ flow.length ≤ 8) ∧ ∀ x ∈ flow, 1 ≤ x ∧ x ≤ 30 := by
  simp only [flowOk, Bool.and_eq_true, decide_eq_true_eq, allIn_iff]
  constructor
  · rintro ⟨⟨h1, h2⟩, h3⟩; exact ⟨⟨by omega, by omega⟩, h3⟩
  · rintro ⟨⟨h1, h2⟩, h3⟩; exact ⟨⟨by omega, by omega⟩, h3⟩
theorem spec_l4Flow_ev (flow : List Int) (h : flow.length < 4611686018427387904) : Ev (fun k => spec_l4Flow.f k flow) (flowOk flow) := by
  unfold spec_l4Flow.f flowOk
  refine Ev.bind0 (spec_l1In_eq _ _ _) ?_
  refine Ev.ite (fun hc => ?_) (fun hc => ?_)
  · rw [hc]; refine Ev.bind (spec_l1All_ev flow 1 30 h) ?_; simpa using Ev.now _
  · rw [Bool.eq_false_iff.mpr hc]; exact Ev.now _

theorem impl_isFlow_ev (flow : List Int) (h : flow.length < 4611686018427387904) : Ev (fun k => impl_isFlow.f k flow) (flowOk flow) := by
  unfold impl_isFlow.f flowOk
  refine Ev.bind0 (impl_within_eq _ _ _) ?_
  refine Ev.ite (fun hc => ?_) (fun hc => ?_)
  · rw [hc]; refine Ev.bind (impl_allWithin_ev flow 1 30 h) ?_; simpa using Ev.now _
  · rw [Bool.eq_false_iff.mpr hc]; exact Ev.now _

def gn (f c : Int) : Int := lowNum f (c * (c + 1))
def gd (f c : Int) : Int := lowDen f (c * (c + 1))
theorem mul_small {a b m n : Int} (ha : 0 ≤ a ∧ a ≤ m) (hb : 0 ≤ b ∧ b ≤ n) : 0 ≤ a * b ∧ a * b ≤ m * n :=
  ⟨Int.mul_nonneg ha.1 hb.1, Int.mul_le_mul ha.2 hb.2 hb.1 (by omega)⟩
def bestUp (lt : Nat → Nat → Bool) : Nat → Nat
  | 0 => 0
  | i + 1 => if lt (bestUp lt i) i = true then i else bestUp lt i
def gainLt (flow counts : List Int) (b i : Nat) : Bool := decide (gn flow[b]! counts[b]! * gd flow[i]! counts[i]! < gn flow[i]! counts[i]! * gd flow[b]! counts[b]!)
def nextOf (flow counts : List Int) : Nat := bestUp (gainLt flow counts) flow.length
theorem impl_compareFracs_eq (a b c d : Int) (h1 : -4000000000000000000 ≤ a * d ∧ a * d ≤ 4000000000000000000) (h2 : -4000000000000000000 ≤ c * b ∧ c * b ≤ 4000000000000000000) :
    impl_compareFracs.f a b c d = some (if a * d < c * b then -1 else if c * b < a * d then 1 else 0) := by
  unfold impl_compareFracs.f
  rw [w64 (x := a * d) (by omega) (by omega), w64 (x := c * b) (by omega) (by omega), w64 (by omega) (by omega)]
  by_cases h : a * d < c * b
  · rw [if_pos (by omega), if_pos h]
  · rw [if_neg (by omega), if_neg h]
    by_cases h' : c * b < a * d
    · rw [if_pos (by omega), if_pos h']
    · rw [if_neg (by omega), if_neg h']

def fits (p : Int × Int) : Int × Int × Bool := if goodFrac p.1 p.2 = true then (p.1, p.2, true) else (0, 0, false)
def bothGood (a b c d : Int) : Bool := goodFrac a b && goodFrac c d
theorem bothGood_iff (a b c d : Int) : bothGood a b c d = true ↔ goodFrac a b = true ∧ goodFrac c d = true := by simp [bothGood]
theorem mul_abs_le {a b m n : Int} (ha : -m ≤ a ∧ a ≤ m) (hb : -n ≤ b ∧ b ≤ n) (hm : 0 ≤ m) (hn : 0 ≤ n) : -(m * n) ≤ a * b ∧ a * b ≤ m * n := by
  have h1 : a.natAbs ≤ m.natAbs := by omega
  have h2 : b.natAbs ≤ n.natAbs := by omega
  have h3 : (a * b).natAbs ≤ (m * n).natAbs := by rw [Int.natAbs_mul, Int.natAbs_mul]; exact Nat.mul_le_mul h1 h2
  have h4 : 0 ≤ m * n := Int.mul_nonneg hm hn
  omega
theorem prod_e18 {a b : Int} (ha : -1000000000 ≤ a ∧ a ≤ 1000000000) (hb : -1000000000 ≤ b ∧ b ≤ 1000000000) : -1000000000000000000 ≤ a * b ∧ a * b ≤ 1000000000000000000 := by
  have := mul_abs_le ha hb (by omega) (by omega); omega
theorem prod_pos {a b : Int} (ha : 1 ≤ a ∧ a ≤ 1000000000) (hb : 1 ≤ b ∧ b ≤ 1000000000) : 1 ≤ a * b ∧ a * b ≤ 1000000000000000000 := by
  have h := prod_e18 (a := a) (b := b) (by omega) (by omega)
  have h2 : 0 < a * b := Int.mul_pos (by omega) (by omega)
  omega
def addF (a b c d : Int) : Int × Int × Bool := if bothGood a b c d = true then fits (lowNum (a * d + c * b) (b * d), lowDen (a * d + c * b) (b * d)) else (0, 0, false)
def subF (a b c d : Int) : Int × Int × Bool := if bothGood a b c d = true then fits (lowNum (a * d - c * b) (b * d), lowDen (a * d - c * b) (b * d)) else (0, 0, false)
def mulF (a b c d : Int) : Int × Int × Bool := if bothGood a b c d = true then fits (lowNum (a * c) (b * d), lowDen (a * c) (b * d)) else (0, 0, false)
def divF (a b c d : Int) : Int × Int × Bool := if bothGood a b c d = true ∧ c ≠ 0 then fits (lowNum (a * d) (b * c), lowDen (a * d) (b * c)) else (0, 0, false)
def lessF (a b c d : Int) : Bool × Bool := if bothGood a b c d = true then (decide (a * d < c * b), true) else (false, false)
def floorF (a b : Int) : Int × Bool := if goodFrac a b = true then (a / b, true) else (0, false)

theorem impl_areFracs_ev (l : List S50) (hl : l.length ≤ 1048576) : Ev (fun k => impl_areFracs.f k l) (l.all fun x => goodFrac x.f0 x.f1) := by
  unfold impl_areFracs.f sl0_ContainsFunc.f sl2_IndexFunc.f
  have hc : ∀ x : S50, Ev (fun k => impl_areFracs_1.f k x.f0 x.f1) (!goodFrac x.f0 x.f1) := fun x => by
    unfold impl_areFracs_1.f; exact Ev.bind (impl_GoodFrac_ev _ _) (Ev.now _)
  have hr : ∀ (i : Nat) (h : i < l.length), rd_T50 l (i : Int) = l[i] := fun i h => by simp [rd_T50, h]
  have key : ∃ j : Int, decide (j ≥ 0) = !(l.all fun x => goodFrac x.f0 x.f1) ∧ Ev (fun k => sl2_IndexFunc.l0 k l (l.length : Int) 0) j := by
    have gen : ∀ (d i : Nat), i + d = l.length → ∃ j : Int, decide (j ≥ 0) = !((l.drop i).all fun x => goodFrac x.f0 x.f1) ∧ Ev (fun k => sl2_IndexFunc.l0 k l (l.length : Int) (i : Int)) j := by
      intro d
      induction d with
      | zero =>
        intro i hi
        refine ⟨-1, by rw [List.drop_of_length_le (by omega)]; decide, Ev.succ ?_⟩
        simp only [sl2_IndexFunc.l0]; exact Ev.neg (by omega) (Ev.now _)
      | succ d ih =>
        intro i hi
        have hi' : i < l.length := by omega
        have hd : (l.drop i).all (fun x => goodFrac x.f0 x.f1) = (goodFrac l[i].f0 l[i].f1 && (l.drop (i + 1)).all fun x => goodFrac x.f0 x.f1) := by
          rw [List.drop_eq_getElem_cons hi', List.all_cons]
        cases hg : goodFrac l[i].f0 l[i].f1 with
        | true =>
          obtain ⟨j, hj, hev⟩ := ih (i + 1) (by omega)
          refine ⟨j, by rw [hd, hg, hj]; simp, Ev.succ ?_⟩
          simp only [sl2_IndexFunc.l0]
          refine Ev.pos (lt_len hi') (Ev.pos (by omega) (Ev.pos (lt_len hi') ?_))
          rw [hr i hi', w64 (by omega) (by omega)]
          refine Ev.bind (hc _) (Ev.neg (by rw [hg]; simp) hev)
        | false =>
          refine ⟨i, by rw [hd, hg]; simp, Ev.succ ?_⟩
          simp only [sl2_IndexFunc.l0]
          refine Ev.pos (lt_len hi') (Ev.pos (by omega) (Ev.pos (lt_len hi') ?_))
          rw [hr i hi']
          refine Ev.bind (hc _) (Ev.pos (by rw [hg]; rfl) (Ev.now _))
    have := gen l.length 0 (by omega)
    simpa using this
  obtain ⟨j, hj, hev⟩ := key
  refine Ev.to (Ev.bind (Ev.bind hev (Ev.now _)) (Ev.now _)) ?_
  rw [hj]; simp
theorem impl_two_ev (a b c d : Int) : Ev (fun k => impl_areFracs.f k [(⟨a, b⟩ : S50), (⟨c, d⟩ : S50)]) (bothGood a b c d) :=
  Ev.to (impl_areFracs_ev _ (by simp)) (by simp [bothGood])

theorem spec_l1Both_ev (a b c d : Int) : Ev (fun k => spec_l1Both.f k a b c d) (bothGood a b c d) := by
  unfold spec_l1Both.f bothGood
  refine Ev.bind (spec_GoodFrac_ev a b) (Ev.ite (fun h => ?_) (fun h => ?_))
  · rw [h]; refine Ev.bind (spec_GoodFrac_ev c d) ?_; simpa using Ev.now _
  · rw [Bool.eq_false_iff.mpr h]; exact Ev.now _

theorem spec_l1Fits_ev (a b : Int) : Ev (fun k => spec_l1Fits.f k a b) (fits (a, b)) := by
  unfold spec_l1Fits.f fits
  refine Ev.bind (spec_GoodFrac_ev a b) (Ev.ite (fun h => ?_) (fun h => ?_))
  · rw [if_pos h]; exact Ev.now _
  · rw [if_neg h]; exact Ev.now _

theorem impl_lowest_fits (a b : Int) (ha : -9223372036854775808 < a ∧ a < 9223372036854775808) (hb : -9223372036854775808 < b ∧ b < 9223372036854775808) (h0 : b ≠ 0) :
    Ev (fun k => impl_lowest.f k a b) (fits (lowNum a b, lowDen a b)) := impl_lowest_ev a b ha hb h0

theorem impl_AddFrac_ev (a b c d : Int) : Ev (fun k => impl_AddFrac.f k a b c d) (addF a b c d) := by
  unfold impl_AddFrac.f addF
  refine Ev.bind (impl_two_ev a b c d) (Ev.ite (fun h => ?_) (fun h => ?_))
  · rw [if_pos h]
    obtain ⟨h1, h2⟩ := (bothGood_iff _ _ _ _).mp h
    obtain ⟨n1, d1, _⟩ := (goodFrac_iff _ _).mp h1
    obtain ⟨n2, d2, _⟩ := (goodFrac_iff _ _).mp h2
    have p1 := prod_e18 (a := a) (b := d) n1 (by omega)
    have p2 := prod_e18 (a := c) (b := b) n2 (by omega)
    have p3 := prod_pos d1 d2
    rw [w64 (x := a * d) (by omega) (by omega), w64 (x := c * b) (by omega) (by omega), w64 (x := b * d) (by omega) (by omega), w64 (by omega) (by omega)]
    exact Ev.bind (impl_lowest_fits _ _ (by omega) (by omega) (by omega)) (Ev.now _)
  · rw [if_neg h]; exact Ev.now _

theorem impl_LessFrac_ev (a b c d : Int) : Ev (fun k => impl_LessFrac.f k a b c d) (lessF a b c d) := by
  unfold impl_LessFrac.f lessF
  refine Ev.bind (impl_two_ev a b c d) (Ev.ite (fun h => ?_) (fun h => ?_))
  · rw [if_pos h]
    obtain ⟨h1, h2⟩ := (bothGood_iff _ _ _ _).mp h
    obtain ⟨n1, d1, _⟩ := (goodFrac_iff _ _).mp h1
    obtain ⟨n2, d2, _⟩ := (goodFrac_iff _ _).mp h2
    have p1 := prod_e18 (a := a) (b := d) n1 (by omega)
    have p2 := prod_e18 (a := c) (b := b) n2 (by omega)
    refine Ev.bind0 (impl_compareFracs_eq a b c d (by omega) (by omega)) (Ev.of_eq fun _ => ?_)
    by_cases hlt : a * d < c * b
    · simp [hlt]
    · rw [if_neg hlt]; split <;> simp [hlt]
  · rw [if_neg h]; exact Ev.now _

theorem spec_l1Add_ev (a b c d : Int) (n1 : -1000000000 ≤ a ∧ a ≤ 1000000000) (d1 : 1 ≤ b ∧ b ≤ 1000000000) (n2 : -1000000000 ≤ c ∧ c ≤ 1000000000) (d2 : 1 ≤ d ∧ d ≤ 1000000000) :
    Ev (fun k => spec_l1Add.f k a b c d) (lowNum (a * d + c * b) (b * d), lowDen (a * d + c * b) (b * d)) := by
  unfold spec_l1Add.f
  have p1 := prod_e18 (a := a) (b := d) n1 (by omega)
  have p2 := prod_e18 (a := c) (b := b) n2 (by omega)
  have p3 := prod_pos d1 d2
  rw [w64 (x := a * d) (by omega) (by omega), w64 (x := c * b) (by omega) (by omega), w64 (x := b * d) (by omega) (by omega), w64 (by omega) (by omega)]
  exact Ev.bind (spec_l1Make_ev _ _ (by omega) (by omega) (by omega)) (Ev.now _)

theorem spec_AddFrac_ev (a b c d : Int) : Ev (fun k => spec_AddFrac.f k a b c d) (addF a b c d) := by
  unfold spec_AddFrac.f addF
  refine Ev.bind (spec_l1Both_ev a b c d) (Ev.ite (fun h => ?_) (fun h => ?_))
  · rw [if_pos h]
    obtain ⟨h1, h2⟩ := (bothGood_iff _ _ _ _).mp h
    obtain ⟨n1, d1, _⟩ := (goodFrac_iff _ _).mp h1
    obtain ⟨n2, d2, _⟩ := (goodFrac_iff _ _).mp h2
    exact Ev.bind (spec_l1Add_ev a b c d n1 d1 n2 d2) (Ev.bind (spec_l1Fits_ev _ _) (Ev.now _))
  · rw [if_neg h]; exact Ev.now _

def sumF : List (Int × Int) → Int × Int → Int × Int × Bool
  | [], s => (s.1, s.2, true)
  | x :: l, s => if (addF s.1 s.2 x.1 x.2).2.2 = true then sumF l ((addF s.1 s.2 x.1 x.2).1, (addF s.1 s.2 x.1 x.2).2.1) else (0, 0, false)

theorem impl_sumFracs_ev (l : List S50) (hl : l.length ≤ 1048576) : Ev (fun k => impl_sumFracs.f k l) (sumF (l.map fun x => (x.f0, x.f1)) (0, 1)) := by
  unfold impl_sumFracs.f
  have hr : ∀ (i : Nat) (h : i < l.length), rd_T50 l (i : Int) = l[i] := fun i h => by simp [rd_T50, h]
  have gen : ∀ (d i : Nat) (p q : Int), i + d = l.length → Ev (fun k => impl_sumFracs.l0 k l (l.length : Int) (i : Int) p q) (sumF ((l.drop i).map fun x => (x.f0, x.f1)) (p, q)) := by
    intro d
    induction d with
    | zero =>
      intro i p q hi
      refine Ev.succ ?_
      simp only [impl_sumFracs.l0]; rw [List.drop_of_length_le (by omega)]; exact Ev.neg (by omega) (Ev.now _)
    | succ d ih =>
      intro i p q hi
      have hi' : i < l.length := by omega
      refine Ev.succ ?_
      simp only [impl_sumFracs.l0]
      refine Ev.pos (lt_len hi') (Ev.pos (by omega) (Ev.pos (lt_len hi') ?_))
      rw [hr i hi', w64 (by omega) (by omega), List.drop_eq_getElem_cons hi', List.map_cons, sumF]
      refine Ev.bind (impl_AddFrac_ev _ _ _ _) (Ev.ite (fun h => ?_) (fun h => ?_))
      · rw [if_pos h]; exact ih (i + 1) _ _ (by omega)
      · rw [if_neg h]; exact Ev.now _
  have := gen l.length 0 0 1 (by omega)
  simpa using this

def sumsF (l : List (Int × Int)) : Int × Int × Bool := if l.length ≤ 50 then sumF l (0, 1) else (0, 0, false)

theorem spec_SumFracs_ev (l : List S50) (hl : l.length ≤ 1048576) : Ev (fun k => spec_SumFracs.f k l) (sumsF (l.map fun x => (x.f0, x.f1))) := by
  unfold spec_SumFracs.f sumsF
  rw [List.length_map]
  have hr : ∀ (i : Nat) (h : i < l.length), rd_T50 l (i : Int) = l[i] := fun i h => by simp [rd_T50, h]
  have gen : ∀ (d i : Nat) (p q : Int), i + d = l.length → Ev (fun k => spec_SumFracs.l0 k l (l.length : Int) (i : Int) p q) (sumF ((l.drop i).map fun x => (x.f0, x.f1)) (p, q)) := by
    intro d
    induction d with
    | zero =>
      intro i p q hi
      refine Ev.succ ?_
      simp only [spec_SumFracs.l0]; rw [List.drop_of_length_le (by omega)]; exact Ev.neg (by omega) (Ev.now _)
    | succ d ih =>
      intro i p q hi
      have hi' : i < l.length := by omega
      refine Ev.succ ?_
      simp only [spec_SumFracs.l0]
      refine Ev.pos (lt_len hi') (Ev.pos (by omega) (Ev.pos (lt_len hi') ?_))
      rw [hr i hi', w64 (by omega) (by omega), List.drop_eq_getElem_cons hi', List.map_cons, sumF]
      refine Ev.bind (spec_AddFrac_ev _ _ _ _) (Ev.ite (fun h => ?_) (fun h => ?_))
      · rw [if_pos h]; exact ih (i + 1) _ _ (by omega)
      · rw [if_neg h]; exact Ev.now _
  refine Ev.ite (fun h => ?_) (fun h => ?_)
  · rw [if_neg (by omega)]; exact Ev.now _
  · rw [if_pos (by omega)]
    have := gen l.length 0 0 1 (by omega)
    simpa using this

theorem fits_true {p : Int × Int} (h : (fits p).2.2 = true) : goodFrac p.1 p.2 = true ∧ fits p = (p.1, p.2, true) := by
  unfold fits at h ⊢
  split at h
  case isTrue hh => exact ⟨hh, by rw [if_pos hh]⟩
  case isFalse => simp at h
theorem addF_true {a b c d : Int} (h : (addF a b c d).2.2 = true) : bothGood a b c d = true ∧ goodFrac (addF a b c d).1 (addF a b c d).2.1 = true ∧ (addF a b c d) = (lowNum (a * d + c * b) (b * d), lowDen (a * d + c * b) (b * d), true) := by
  unfold addF at h ⊢
  split at h
  case isTrue hh =>
    obtain ⟨h1, h2⟩ := fits_true h
    rw [if_pos hh, h2]; exact ⟨hh, h1, rfl⟩
  case isFalse => simp at h
def isD (D : Int) (x : Int × Int) (t : Int) : Prop := 1 ≤ x.2 ∧ x.1 * D = x.2 * t
theorem low_isD {D f c t : Int} (hc : 0 < c) (h : f * D = c * t) : isD D (lowNum f c, lowDen f c) t := by
  refine ⟨(low_den_pos f c hc).1, ?_⟩
  have x := low_cross f c hc
  dsimp only
  have e : lowNum f c * D * c = lowDen f c * t * c := by
    calc lowNum f c * D * c = (lowNum f c * c) * D := by rw [Int.mul_right_comm]
      _ = (f * lowDen f c) * D := by rw [x]
      _ = (f * D) * lowDen f c := by rw [Int.mul_right_comm]
      _ = (c * t) * lowDen f c := by rw [h]
      _ = lowDen f c * t * c := by rw [Int.mul_comm (c * t), Int.mul_comm c t, Int.mul_assoc]
  exact Int.eq_of_mul_eq_mul_right (by omega) e
theorem add_isD {x y : Int × Int} {D s t : Int} (hx : isD D x s) (hy : isD D y t) (ok : (addF x.1 x.2 y.1 y.2).2.2 = true) : isD D ((addF x.1 x.2 y.1 y.2).1, (addF x.1 x.2 y.1 y.2).2.1) (s + t) ∧ goodFrac (addF x.1 x.2 y.1 y.2).1 (addF x.1 x.2 y.1 y.2).2.1 = true := by
  obtain ⟨h1, h2, h3⟩ := addF_true ok
  refine ⟨?_, h2⟩
  rw [h3]
  have := hx.1
  have := hy.1
  refine low_isD (Int.mul_pos (by omega) (by omega)) ?_
  rw [Int.add_mul, Int.mul_add]
  congr 1
  · rw [Int.mul_right_comm, hx.2, Int.mul_right_comm]
  · rw [Int.mul_right_comm, hy.2, Int.mul_comm x.2 y.2, Int.mul_right_comm]
theorem sumF_isD {D : Int} (g : Nat → Int × Int) (t : Nat → Int) : ∀ (L : List Nat) (s : Int × Int) (T : Int), (∀ j ∈ L, isD D (g j) (t j)) → isD D s T → goodFrac s.1 s.2 = true → (sumF (L.map g) s).2.2 = true →
    isD D ((sumF (L.map g) s).1, (sumF (L.map g) s).2.1) (T + (L.map t).sum) ∧ goodFrac (sumF (L.map g) s).1 (sumF (L.map g) s).2.1 = true := by
  intro L
  induction L with
  | nil => intro s T _ hs hg _; simp only [sumF, List.map_nil, List.sum_nil, Int.add_zero]; exact ⟨hs, hg⟩
  | cons x l ih =>
    intro s T hl hs hg ok
    rw [List.map_cons, sumF] at ok
    rw [List.map_cons, sumF]
    split at ok
    case isTrue hh =>
      rw [if_pos hh]
      obtain ⟨h1, h2⟩ := add_isD hs (hl x (by simp)) hh
      have := ih _ _ (fun y hy => hl y (by simp [hy])) h1 h2 ok
      rw [List.map_cons, List.sum_cons, ← Int.add_assoc]; exact this
    case isFalse => simp at ok

def ins (lt : Int → Int → Bool) (x : Int) (l : List Int) : List Int := l.takeWhile (fun y => !lt x y) ++ x :: l.dropWhile (fun y => !lt x y)
def isl (lt : Int → Int → Bool) (l : List Int) : List Int := l.foldl (fun s x => ins lt x s) []
theorem isl_take_succ (lt : Int → Int → Bool) (l : List Int) (i : Nat) (h : i < l.length) : isl lt (l.take (i + 1)) = ins lt l[i] (isl lt (l.take i)) := by
  unfold isl; rw [List.take_succ_eq_append_getElem h, List.foldl_append, List.foldl_cons, List.foldl_nil]
theorem ins_perm (lt : Int → Int → Bool) (x : Int) (l : List Int) : (ins lt x l).Perm (x :: l) := by
  unfold ins; refine List.perm_middle.trans ?_; rw [List.takeWhile_append_dropWhile]
theorem foldl_ins_perm (lt : Int → Int → Bool) (l : List Int) : ∀ s : List Int, (l.foldl (fun s x => ins lt x s) s).Perm (s ++ l) := by
  induction l with
  | nil => intro s; simp
  | cons a l ih =>
    intro s
    rw [List.foldl_cons]
    exact (ih _).trans (((ins_perm lt a s).append_right l).trans List.perm_middle.symm)
theorem isl_perm (lt : Int → Int → Bool) (l : List Int) : (isl lt l).Perm l := by simpa [isl] using foldl_ins_perm lt l []
theorem isl_length (lt : Int → Int → Bool) (l : List Int) : (isl lt l).length = l.length := (isl_perm lt l).length_eq
theorem ins_split (lt : Int → Int → Bool) (x : Int) (A B : List Int) (hA : ∀ a ∈ A, lt x a = false) (hB : ∀ b ∈ B, lt x b = true) : ins lt x (A ++ B) = A ++ x :: B := by
  unfold ins
  rw [List.takeWhile_append_of_pos (fun a ha => by simp [hA a ha]), List.dropWhile_append_of_pos (fun a ha => by simp [hA a ha])]
  cases B with
  | nil => simp
  | cons b B => have := hB b (by simp); simp [this]
structure Weak (lt : Int → Int → Bool) (P : Int → Prop) : Prop where
  nt : ∀ a b c, P a → P b → P c → lt a b = false → lt b c = false → lt a c = false
  asy : ∀ a b, P a → P b → lt a b = true → lt b a = false
theorem ins_sorted {lt : Int → Int → Bool} {P : Int → Prop} (hw : Weak lt P) {x : Int} {s : List Int} (hx : P x) (hs : ∀ y ∈ s, P y) (h : s.Pairwise fun a b => lt b a = false) : (ins lt x s).Pairwise fun a b => lt b a = false := by
  unfold ins
  have hA : ∀ a ∈ s.takeWhile (fun y => !lt x y), lt x a = false := fun a ha => by
    have := List.all_eq_true.mp (List.all_takeWhile (p := fun y => !lt x y) (l := s)) a ha
    simpa using this
  have e : s.takeWhile (fun y => !lt x y) ++ s.dropWhile (fun y => !lt x y) = s := List.takeWhile_append_dropWhile
  have hd : ∀ B, s.dropWhile (fun y => !lt x y) = B → (match B with | [] => True | b :: _ => lt x b = true) := by
    intro B hB
    cases B with
    | nil => trivial
    | cons b B =>
      have := List.head?_dropWhile_not (fun y => !lt x y) s
      rw [hB] at this
      simpa using this
  revert hA e hd
  generalize s.takeWhile (fun y => !lt x y) = A
  generalize s.dropWhile (fun y => !lt x y) = B
  intro hA e hd
  subst e
  rw [List.pairwise_append] at h
  have hB : ∀ b ∈ B, lt x b = true := by
    intro b hb
    cases B with
    | nil => simp at hb
    | cons b0 B =>
      have h0 : lt x b0 = true := hd _ rfl
      rcases List.mem_cons.mp hb with rfl | hb
      · exact h0
      · have h1 := (List.pairwise_cons.mp h.2.1).1 b hb
        cases h2 : lt x b with
        | true => rfl
        | false => have := hw.nt x b b0 hx (hs _ (by simp [hb])) (hs _ (by simp)) h2 h1; rw [this] at h0; cases h0
  rw [List.pairwise_append]
  refine ⟨h.1, List.pairwise_cons.mpr ⟨fun b hb => hw.asy _ _ hx (hs _ (by simp [hb])) (hB b hb), h.2.1⟩, fun a ha y hy => ?_⟩
  rcases List.mem_cons.mp hy with rfl | hy
  · exact hA a ha
  · exact h.2.2 a ha y hy
theorem isl_sorted {lt : Int → Int → Bool} {P : Int → Prop} (hw : Weak lt P) (l : List Int) (hl : ∀ y ∈ l, P y) (i : Nat) (hi : i ≤ l.length) : (isl lt (l.take i)).Pairwise fun a b => lt b a = false := by
  induction i with
  | zero => simp [isl]
  | succ i ih =>
    rw [isl_take_succ lt l i (by omega)]
    exact ins_sorted hw (hl _ (List.getElem_mem _)) (fun y hy => hl y (List.mem_of_mem_take ((isl_perm lt _).mem_iff.mp hy))) (ih (by omega))
theorem rd_app (A C : List Int) (x : Int) : rd (A ++ x :: C) (A.length : Int) = x := by
  rw [rd_nat _ _ (by simp)]; simp
theorem swap_app (A C : List Int) (y x : Int) : ((A ++ [y] ++ x :: C).set (A.length + 1) y).set A.length x = A ++ x :: y :: C := by
  rw [List.append_assoc, List.set_append_right _ _ (by omega), show A.length + 1 - A.length = 1 by omega]
  rw [List.set_append_right _ _ (Nat.le_refl _), Nat.sub_self]
  simp
structure Inserts (cmp : Int → Int → Option Int) (n : Nat) (g0 : Nat → List Int → Int → Option (List Int)) (g1 : Nat → List Int → Int → Int → Option (List Int)) : Prop where
  h0 : ∀ k x i, g0 (k + 1) x i = if i < (n : Int) then g1 k x i i else some x
  h1 : ∀ k (x : List Int) (i j : Int), g1 (k + 1) x i j = if j > 0 then (if 0 ≤ j then (if j < (x.length : Int) then (if 0 ≤ (wrap64 (j - 1)) then (if (wrap64 (j - 1)) < (x.length : Int) then ((cmp (rd x j) (rd x (wrap64 (j - 1)))).bind fun t => (if t < 0 then (g1 k ((x.set (j : Int).toNat (rd x (wrap64 (j - 1)))).set ((wrap64 (j - 1)) : Int).toNat (rd x j)) i (wrap64 (j - 1))) else (g0 k x (wrap64 (i + 1))))) else (none)) else (none)) else (none)) else (none)) else (g0 k x (wrap64 (i + 1)))
theorem inserts_in {cmp : Int → Int → Option Int} {n : Nat} {g0 : Nat → List Int → Int → Option (List Int)} {g1 : Nat → List Int → Int → Int → Option (List Int)} (hg : Inserts cmp n g0 g1) {lt : Int → Int → Bool} {P : Int → Prop} (hw : Weak lt P)
    (hc : ∀ a b, P a → P b → ∃ t, cmp a b = some t ∧ lt a b = decide (t < 0)) (x i : Int) (D : List Int) (r : List Int) (hx : P x) (j : Nat) : ∀ (A B : List Int), A.length = j → j ≤ 1048576 → (∀ y ∈ A, P y) → (A.Pairwise fun a b => lt b a = false) → (∀ b ∈ B, lt x b = true) →
      Ev (fun k => g0 k (ins lt x (A ++ B) ++ D) (wrap64 (i + 1))) r → Ev (fun k => g1 k (A ++ x :: (B ++ D)) i (j : Int)) r := by
  induction j with
  | zero =>
    intro A B hA _ hP hs hB hd
    obtain rfl : A = [] := List.length_eq_zero_iff.mp hA
    refine Ev.succ ?_
    simp only [hg.h1]
    refine Ev.neg (by omega) ?_
    rw [ins_split lt x [] B (by simp) hB] at hd
    simpa using hd
  | succ j ih =>
    intro A B hA hj hP hs hB hd
    obtain ⟨A', y, rfl⟩ : ∃ A' y, A = A' ++ [y] := ⟨A.dropLast, A.getLast (by intro h; simp [h] at hA), (List.dropLast_concat_getLast _).symm⟩
    have hA' : A'.length = j := by simpa using hA
    refine Ev.succ ?_
    simp only [hg.h1]
    have hl : (A' ++ [y] ++ x :: (B ++ D)).length = j + 1 + (1 + (B ++ D).length) := by simp [hA']; omega
    rw [w64 (x := ((j + 1 : Nat) : Int) - 1) (by omega) (by omega), show ((j + 1 : Nat) : Int) - 1 = (j : Int) by omega]
    have r1 : rd (A' ++ [y] ++ x :: (B ++ D)) ((j + 1 : Nat) : Int) = x := by
      have := rd_app (A' ++ [y]) (B ++ D) x
      rw [hA] at this; exact this
    have r2 : rd (A' ++ [y] ++ x :: (B ++ D)) (j : Int) = y := by
      have := rd_app A' (x :: (B ++ D)) y
      rw [hA'] at this; simpa using this
    rw [r1, r2]
    obtain ⟨t, ht, hlt⟩ := hc x y hx (hP y (by simp))
    refine Ev.pos (by omega) (Ev.pos (by omega) (Ev.pos (by rw [hl]; omega) (Ev.pos (by omega) (Ev.pos (by rw [hl]; omega) (Ev.bind0 ht ?_)))))
    refine Ev.ite (fun h => ?_) (fun h => ?_)
    · rw [toNat_nat, toNat_nat, ← hA', swap_app, hA']
      have := ih A' (y :: B) hA' (by omega) (fun z hz => hP z (by simp [hz])) (List.pairwise_append.mp hs).1 (fun b hb => by
        rcases List.mem_cons.mp hb with rfl | hb
        · rw [hlt, decide_eq_true h]
        · exact hB b hb) (by simpa using hd)
      simpa using this
    · have hy : lt x y = false := by rw [hlt, decide_eq_false h]
      rw [ins_split lt x _ B (fun a ha => by
        rcases List.mem_append.mp ha with ha | ha
        · exact hw.nt x y a hx (hP y (by simp)) (hP a (by simp [ha])) hy ((List.pairwise_append.mp hs).2.2 a ha y (by simp))
        · obtain rfl : a = y := by simpa using ha
          exact hy) hB] at hd
      simpa using hd
theorem inserts_ev {cmp : Int → Int → Option Int} {n : Nat} {g0 : Nat → List Int → Int → Option (List Int)} {g1 : Nat → List Int → Int → Int → Option (List Int)} (hg : Inserts cmp n g0 g1) {lt : Int → Int → Bool} {P : Int → Prop} (hw : Weak lt P)
    (hc : ∀ a b, P a → P b → ∃ t, cmp a b = some t ∧ lt a b = decide (t < 0)) (l : List Int) (hn : l.length = n) (hl : n ≤ 1048576) (hP : ∀ y ∈ l, P y) : Ev (fun k => g0 k l 1) (isl lt l) := by
  rcases Nat.eq_zero_or_pos n with h0 | h0
  · refine Ev.succ ?_
    simp only [hg.h0]
    obtain rfl : l = [] := List.length_eq_zero_iff.mp (by omega)
    exact Ev.neg (by omega) (Ev.now _)
  have key := ev_up (n - 1) (fun k i => g0 k (isl lt (l.take (i + 1)) ++ l.drop (i + 1)) ((i + 1 : Nat) : Int)) (isl lt l) (fun _ => True) trivial ?_ ?_
  · rw [isl_take_succ lt l 0 (by omega)] at key
    have e : ins lt l[0] (isl lt (l.take 0)) ++ l.drop (0 + 1) = l := by
      simp only [List.take_zero, isl, List.foldl_nil, ins, List.takeWhile_nil, List.dropWhile_nil, List.nil_append, Nat.zero_add]
      rw [List.singleton_append, ← List.drop_eq_getElem_cons (by omega), List.drop_zero]
    rw [e] at key
    exact key
  · intro _
    refine Ev.succ ?_
    simp only [hg.h0]
    rw [show n - 1 + 1 = n by omega, ← hn, List.take_length, List.drop_length, List.append_nil]
    exact Ev.neg (by omega) (Ev.now _)
  · intro i hi _ hnx
    have hi' : i + 1 < l.length := by omega
    refine Ev.succ ?_
    simp only [hg.h0]
    refine Ev.pos (by omega) ?_
    rw [List.drop_eq_getElem_cons hi']
    have hlen : (isl lt (l.take (i + 1))).length = i + 1 := by rw [isl_length, List.length_take]; omega
    have := inserts_in hg hw hc l[i + 1] ((i + 1 : Nat) : Int) (l.drop (i + 1 + 1)) (isl lt l) (hP _ (List.getElem_mem _)) (i + 1) (isl lt (l.take (i + 1))) [] hlen (by omega)
      (fun y hy => hP y (List.mem_of_mem_take ((isl_perm lt _).mem_iff.mp hy))) (isl_sorted hw l hP (i + 1) (by omega)) (by simp) (by
        rw [List.append_nil, ← isl_take_succ lt l (i + 1) hi', w64 (by omega) (by omega)]
        exact hnx trivial)
    simpa using this

theorem isl_snoc (lt : Int → Int → Bool) (l : List Int) (x : Int) : isl lt (l ++ [x]) = ins lt x (isl lt l) := by
  unfold isl; rw [List.foldl_append, List.foldl_cons, List.foldl_nil]
def idx (n : Nat) : List Int := (List.range n).map fun (j : Nat) => (j : Int)
theorem idx_length (n : Nat) : (idx n).length = n := by simp [idx]
theorem idx_succ (n : Nat) : idx (n + 1) = idx n ++ [(n : Int)] := by simp [idx, List.range_succ]
theorem mem_idx (n : Nat) (x : Int) : x ∈ idx n ↔ 0 ≤ x ∧ x < (n : Int) := by
  simp only [idx, List.mem_map, List.mem_range]
  constructor
  · rintro ⟨a, h, rfl⟩; omega
  · rintro ⟨h1, h2⟩; exact ⟨x.toNat, by omega, by omega⟩
theorem isl_idx_mem (lt : Int → Int → Bool) (n : Nat) {x : Int} (h : x ∈ isl lt (idx n)) : 0 ≤ x ∧ x < (n : Int) := (mem_idx n x).mp ((isl_perm lt _).mem_iff.mp h)
theorem isl_idx_length (lt : Int → Int → Bool) (n : Nat) : (isl lt (idx n)).length = n := by rw [isl_length, idx_length]
theorem span_spec (p : Int → Bool) (s : List Int) : ∃ K, K ≤ s.length ∧ s.takeWhile p = s.take K ∧ s.dropWhile p = s.drop K ∧ (∀ j, ∀ h : j < s.length, j < K → p s[j] = true) ∧ (∀ h : K < s.length, p s[K] = false) := by
  induction s with
  | nil => exact ⟨0, by simp⟩
  | cons a s ih =>
    cases ha : p a with
    | true =>
      obtain ⟨K, h1, h2, h3, h4, h5⟩ := ih
      refine ⟨K + 1, by simp; omega, by simp [ha, h2], by simp [ha, h3], ?_, ?_⟩
      · intro j h hj
        cases j with
        | zero => exact ha
        | succ j => exact h4 j (by simpa using h) (by omega)
      · intro h; exact h5 (by simpa using h)
    | false =>
      refine ⟨0, by simp, by simp [ha], by simp [ha], ?_, ?_⟩
      · intro j h hj; omega
      · intro h; exact ha

def ltDown (values : List Int) (a b : Int) : Bool := decide (rd values b < rd values a)
theorem spec_l3Rank_ev (values : List Int) (h : values.length ≤ 1048576) : Ev (fun k => spec_l3Rank.f k values) (isl (ltDown values) (idx values.length)) := by
  unfold spec_l3Rank.f
  refine ev_up values.length (fun k i => spec_l3Rank.l0 k values (isl (ltDown values) (idx i)) values (values.length : Int) (i : Int)) _ (fun _ => True) trivial ?_ ?_
  · intro _
    refine Ev.succ ?_
    simp only [spec_l3Rank.l0]
    exact Ev.neg (by omega) (Ev.now _)
  · intro i hi _ hn
    refine Ev.succ ?_
    simp only [spec_l3Rank.l0]
    refine Ev.pos (by omega) (Ev.pos (by omega) (Ev.pos (by omega) ?_))
    have hm : ∀ x ∈ isl (ltDown values) (idx i), 0 ≤ x ∧ x < (i : Int) := fun x hx => isl_idx_mem _ _ hx
    have hl := isl_idx_length (ltDown values) i
    have hn' := hn trivial
    rw [idx_succ, isl_snoc, ins] at hn'
    revert hm hl hn'
    generalize isl (ltDown values) (idx i) = s
    intro hm hl hn'
    obtain ⟨K, h1, h2, h3, h4, h5⟩ := span_spec (fun y => !ltDown values (i : Int) y) s
    rw [h2, h3] at hn'
    have body : Ev (fun k => if ([] : List Int).length + (s.take K).length < 17592186044416 then ((some (([] : List Int) ++ s.take K : List Int)).bind fun y111 => (if y111.length < 17592186044416 then ((some (y111 ++ [(i : Int)] : List Int)).bind fun y114 => ((some (s.drop K : List Int)).bind fun y117 => (if y114.length + y117.length < 17592186044416 then (spec_l3Rank.l0 k values (y114 ++ y117) values (values.length : Int) (wrap64 ((i : Int) + 1))) else (none)))) else (none))) else (none)) (isl (ltDown values) (idx values.length)) := by
      refine Ev.pos (by simp; omega) (Ev.bind0 rfl (Ev.pos (by simp; omega) (Ev.bind0 rfl (Ev.bind0 rfl (Ev.pos (by simp; omega) ?_)))))
      rw [w64 (by omega) (by omega)]
      simpa using hn'
    refine ev_up K (fun k j => spec_l3Rank.l1 k values s (i : Int) (rd values (i : Int)) (j : Int) values (values.length : Int) (i : Int)) _ (fun _ => True) trivial ?_ ?_
    · intro _
      refine Ev.succ ?_
      simp only [spec_l3Rank.l1]
      refine Ev.ite (fun hc => ?_) (fun hc => ?_)
      · have hk : K < s.length := by omega
        have hx := hm _ (List.getElem_mem hk)
        have h6 := h5 hk
        rw [rd_nat _ _ hk]
        refine Ev.pos (by omega) (Ev.pos (by omega) (Ev.pos (by omega) (Ev.neg ?_ ?_)))
        · simp only [ltDown, Bool.not_eq_false', decide_eq_true_eq] at h6; omega
        · rw [toNat_nat]
          exact Ev.bind0 rfl (Ev.pos (by omega) (Ev.bind0 rfl body))
      · rw [toNat_nat]
        exact Ev.bind0 rfl (Ev.pos (by omega) (Ev.pos (by omega) (Ev.bind0 rfl body)))
    · intro j hj _ hnx
      have hk : j < s.length := by omega
      have hx := hm _ (List.getElem_mem hk)
      have h6 := h4 j hk hj
      refine Ev.succ ?_
      simp only [spec_l3Rank.l1]
      rw [rd_nat _ _ hk]
      refine Ev.pos (by omega) (Ev.pos (by omega) (Ev.pos (by omega) (Ev.pos (by omega) (Ev.pos ?_ ?_))))
      · simp only [ltDown, Bool.not_eq_true', decide_eq_false_iff_not] at h6; omega
      · rw [w64 (by omega) (by omega)]; exact hnx trivial

theorem rd_neg (l : List Int) (x : Int) (h0 : 0 ≤ x) : rd (l.map fun w => -w) x = - rd l x := by
  obtain ⟨n, rfl⟩ := exists_nat_of_nonneg h0
  rcases Nat.lt_or_ge n l.length with hn | hn
  · rw [rd_nat _ _ (by simpa using hn), rd_nat _ _ hn]; simp
  · simp [rd, hn]
theorem isl_congr_on {lt lt' : Int → Int → Bool} (l : List Int) (h : ∀ a ∈ l, ∀ b ∈ l, lt a b = lt' a b) : isl lt l = isl lt' l := by
  suffices hh : ∀ i, i ≤ l.length → isl lt (l.take i) = isl lt' (l.take i) by have := hh l.length (Nat.le_refl _); simpa using this
  intro i
  induction i with
  | zero => intro _; simp [isl]
  | succ i ih =>
    intro hi
    rw [isl_take_succ lt l i (by omega), isl_take_succ lt' l i (by omega), ih (by omega)]
    have hm : ∀ y ∈ isl lt' (l.take i), lt l[i] y = lt' l[i] y := fun y hy => h _ (List.getElem_mem _) _ (List.mem_of_mem_take ((isl_perm lt' _).mem_iff.mp hy))
    revert hm
    generalize isl lt' (l.take i) = s
    intro hm
    unfold ins
    have e1 : s.takeWhile (fun y => !lt l[i] y) = s.takeWhile (fun y => !lt' l[i] y) ∧ s.dropWhile (fun y => !lt l[i] y) = s.dropWhile (fun y => !lt' l[i] y) := by
      clear ih h
      induction s with
      | nil => simp
      | cons a s ih =>
        have h1 := hm a (by simp)
        have h2 := ih fun y hy => hm y (by simp [hy])
        simp only [List.takeWhile_cons, List.dropWhile_cons, h1, h2.1, h2.2, and_self]
    rw [e1.1, e1.2]

def ltG (picks counts : List Int) (a b : Int) : Bool := decide (rd picks b * rd counts a < rd picks a * rd counts b)
theorem spec_l17Goods_ev (picks counts : List Int) (h : picks.length ≤ 8) (hl : counts.length = picks.length) (hp : ∀ x ∈ picks, 1 ≤ x ∧ x ≤ 30) (hc : ∀ x ∈ counts, 1 ≤ x ∧ x ≤ 10) :
    Ev (fun k => spec_l17Goods.f k picks counts) (isl (ltG picks counts) (idx picks.length)) := by
  have bp : ∀ j : Int, 0 ≤ j → j < picks.length → 1 ≤ rd picks j ∧ rd picks j ≤ 30 := fun j h0 h1 => by
    obtain ⟨n, rfl⟩ := exists_nat_of_nonneg h0
    rw [rd_nat _ _ (by omega)]; exact hp _ (List.getElem_mem _)
  have bc : ∀ j : Int, 0 ≤ j → j < picks.length → 1 ≤ rd counts j ∧ rd counts j ≤ 10 := fun j h0 h1 => by
    obtain ⟨n, rfl⟩ := exists_nat_of_nonneg h0
    rw [rd_nat _ _ (by omega)]; exact hc _ (List.getElem_mem _)
  unfold spec_l17Goods.f
  refine ev_up picks.length (fun k i => spec_l17Goods.l0 k picks counts (isl (ltG picks counts) (idx i)) (picks.length : Int) (i : Int)) _ (fun _ => True) trivial ?_ ?_
  · intro _
    refine Ev.succ ?_
    simp only [spec_l17Goods.l0]
    exact Ev.neg (by omega) (Ev.now _)
  · intro i hi _ hn
    refine Ev.succ ?_
    simp only [spec_l17Goods.l0]
    refine Ev.pos (by omega) ?_
    have hm : ∀ x ∈ isl (ltG picks counts) (idx i), 0 ≤ x ∧ x < (i : Int) := fun x hx => isl_idx_mem _ _ hx
    have hl' := isl_idx_length (ltG picks counts) i
    have hn' := hn trivial
    rw [idx_succ, isl_snoc, ins] at hn'
    revert hm hl' hn'
    generalize isl (ltG picks counts) (idx i) = s
    intro hm hl' hn'
    obtain ⟨K, h1, h2, h3, h4, h5⟩ := span_spec (fun y => !ltG picks counts (i : Int) y) s
    rw [h2, h3] at hn'
    have body : Ev (fun k => if ([] : List Int).length + (s.take K).length < 17592186044416 then ((some (([] : List Int) ++ s.take K : List Int)).bind fun y111 => (if y111.length < 17592186044416 then ((some (y111 ++ [(i : Int)] : List Int)).bind fun y114 => ((some (s.drop K : List Int)).bind fun y117 => (if y114.length + y117.length < 17592186044416 then (spec_l17Goods.l0 k picks counts (y114 ++ y117) (picks.length : Int) (wrap64 ((i : Int) + 1))) else (none)))) else (none))) else (none)) (isl (ltG picks counts) (idx picks.length)) := by
      refine Ev.pos (by simp; omega) (Ev.bind0 rfl (Ev.pos (by simp; omega) (Ev.bind0 rfl (Ev.bind0 rfl (Ev.pos (by simp; omega) ?_)))))
      rw [w64 (by omega) (by omega)]
      simpa using hn'
    refine ev_up K (fun k j => spec_l17Goods.l1 k picks counts s (i : Int) (j : Int) (picks.length : Int) (i : Int)) _ (fun _ => True) trivial ?_ ?_
    · intro _
      refine Ev.succ ?_
      simp only [spec_l17Goods.l1]
      refine Ev.ite (fun hcc => ?_) (fun hcc => ?_)
      · have hk : K < s.length := by omega
        have hx := hm _ (List.getElem_mem hk)
        have h6 := h5 hk
        rw [rd_nat _ _ hk]
        have q1 := bp s[K] (by omega) (by omega)
        have q2 := bc s[K] (by omega) (by omega)
        have q3 := bp (i : Int) (by omega) (by omega)
        have q4 := bc (i : Int) (by omega) (by omega)
        have m1 := mul_small (a := rd picks s[K]) (b := rd counts (i : Int)) (m := 30) (n := 10) ⟨by omega, by omega⟩ ⟨by omega, by omega⟩
        have m2 := mul_small (a := rd picks (i : Int)) (b := rd counts s[K]) (m := 30) (n := 10) ⟨by omega, by omega⟩ ⟨by omega, by omega⟩
        refine Ev.pos (by omega) (Ev.pos (by omega) (Ev.pos (by omega) (Ev.pos (by omega) (Ev.pos (by omega) (Ev.pos (by omega) (Ev.pos (by omega) (Ev.neg ?_ ?_)))))))
        · rw [w64 (by omega) (by omega), w64 (by omega) (by omega)]
          simp only [ltG, Bool.not_eq_false', decide_eq_true_eq] at h6; omega
        · rw [toNat_nat]
          exact Ev.bind0 rfl (Ev.pos (by omega) (Ev.bind0 rfl body))
      · rw [toNat_nat]
        exact Ev.bind0 rfl (Ev.pos (by omega) (Ev.pos (by omega) (Ev.bind0 rfl body)))
    · intro j hj _ hnx
      have hk : j < s.length := by omega
      have hx := hm _ (List.getElem_mem hk)
      have h6 := h4 j hk hj
      have q1 := bp s[j] (by omega) (by omega)
      have q2 := bc s[j] (by omega) (by omega)
      have q3 := bp (i : Int) (by omega) (by omega)
      have q4 := bc (i : Int) (by omega) (by omega)
      have m1 := mul_small (a := rd picks s[j]) (b := rd counts (i : Int)) (m := 30) (n := 10) ⟨by omega, by omega⟩ ⟨by omega, by omega⟩
      have m2 := mul_small (a := rd picks (i : Int)) (b := rd counts s[j]) (m := 30) (n := 10) ⟨by omega, by omega⟩ ⟨by omega, by omega⟩
      refine Ev.succ ?_
      simp only [spec_l17Goods.l1]
      rw [rd_nat _ _ hk]
      refine Ev.pos (by omega) (Ev.pos (by omega) (Ev.pos (by omega) (Ev.pos (by omega) (Ev.pos (by omega) (Ev.pos (by omega) (Ev.pos (by omega) (Ev.pos (by omega) (Ev.pos ?_ ?_))))))))
      · rw [w64 (by omega) (by omega), w64 (by omega) (by omega)]
        simp only [ltG, Bool.not_eq_true', decide_eq_false_iff_not] at h6; omega
      · rw [w64 (by omega) (by omega)]; exact hnx trivial

def place (g : Int) : Nat → List Int → List Int → List Int
  | m + 1, s :: ss, out => place g m ss (out.set s.toNat g)
  | _, _, out => out
theorem place_zero (g : Int) (s out : List Int) : place g 0 s out = out := by cases s <;> rfl
theorem place_length (g : Int) (m : Nat) : ∀ s out : List Int, (place g m s out).length = out.length := by
  induction m with
  | zero => intro s out; rw [place_zero]
  | succ m ih =>
    intro s out
    cases s with
    | nil => rfl
    | cons a s => rw [place, ih, List.length_set]
def fillOut (counts : List Int) : List Int → List Int → List Int → List Int
  | [], _, out => out
  | g :: gs, slots, out => fillOut counts gs (slots.drop (rd counts g).toNat) (place g (rd counts g).toNat slots out)
def many (counts gs : List Int) : Nat := (gs.map fun g => (rd counts g).toNat).sum
theorem toNat_sum (l : List Int) (h : ∀ x ∈ l, 0 ≤ x) : (((l.map Int.toNat).sum : Nat) : Int) = l.sum := by
  induction l with
  | nil => rfl
  | cons a l ih =>
    have h1 := h a (by simp)
    have h2 := ih fun x hx => h x (by simp [hx])
    simp only [List.map_cons, List.sum_cons]; omega
theorem many_idx (counts : List Int) (lt : Int → Int → Bool) (h : ∀ x ∈ counts, 0 ≤ x) : ((many counts (isl lt (idx counts.length)) : Nat) : Int) = counts.sum := by
  rw [← toNat_sum counts h]
  have e : (idx counts.length).map (fun g => (rd counts g).toNat) = counts.map Int.toNat := by
    apply List.ext_getElem
    · simp [idx_length]
    · intro i h1 h2
      have hi : i < counts.length := by simpa using h2
      simp only [List.getElem_map]
      have : (idx counts.length)[i]'(by rw [idx_length]; exact hi) = (i : Int) := by simp [idx]
      rw [this, rd_nat _ _ hi]
  have := ((isl_perm lt (idx counts.length)).map fun g => (rd counts g).toNat).sum_nat
  rw [e] at this
  unfold many; rw [this]

theorem spec_place (S counts goods : List Int) (g : Int) (n : Int) (i : Int) (r : List Int) (m : Nat) : ∀ (at_ : Nat) (out : List Int), m ≤ 1048576 → at_ + m ≤ S.length → S.length ≤ 1048576 → (∀ s ∈ S, 0 ≤ s ∧ s < (out.length : Int)) →
    Ev (fun k => spec_l17Slots.l1 k counts S (place g m (S.drop at_) out) ((at_ + m : Nat) : Int) goods n (wrap64 (i + 1))) r → Ev (fun k => spec_l17Slots.l2 k counts S out (at_ : Int) g (m : Int) goods n i) r := by
  induction m with
  | zero =>
    intro at_ out _ _ _ _ hd
    refine Ev.succ ?_
    simp only [spec_l17Slots.l2]
    rw [place_zero] at hd
    exact Ev.neg (by omega) hd
  | succ m ih =>
    intro at_ out hm ha hS hs hd
    have hlt : at_ < S.length := by omega
    have hx := hs _ (List.getElem_mem hlt)
    refine Ev.succ ?_
    simp only [spec_l17Slots.l2]
    rw [rd_nat _ _ hlt]
    refine Ev.pos (by omega) (Ev.pos (by omega) (Ev.pos (by omega) (Ev.pos (by omega) (Ev.pos (by omega) ?_))))
    rw [w64 (x := ((m + 1 : Nat) : Int) - 1) (by omega) (by omega), w64 (x := (at_ : Int) + 1) (by omega) (by omega), show ((m + 1 : Nat) : Int) - 1 = (m : Int) by omega]
    refine ih (at_ + 1) (out.set S[at_].toNat g) (by omega) (by omega) hS (by rw [List.length_set]; exact hs) ?_
    rw [List.drop_eq_getElem_cons hlt, place] at hd
    rw [show at_ + 1 + m = at_ + (m + 1) by omega]
    exact hd
theorem spec_fill (S counts goods : List Int) (hc : ∀ x ∈ counts, 1 ≤ x ∧ x ≤ 10) (hg : ∀ g ∈ goods, 0 ≤ g ∧ g < (counts.length : Int)) (hgl : goods.length ≤ 1048576) (rest : List Int) : ∀ (i at_ : Nat) (out : List Int), goods.drop i = rest → i ≤ goods.length → at_ + many counts rest ≤ S.length → S.length ≤ 1048576 → (∀ s ∈ S, 0 ≤ s ∧ s < (out.length : Int)) →
    Ev (fun k => spec_l17Slots.l1 k counts S out (at_ : Int) goods (goods.length : Int) (i : Int)) (fillOut counts rest (S.drop at_) out) := by
  induction rest with
  | nil =>
    intro i at_ out hd hi _ _ _
    have : i = goods.length := by have := congrArg List.length hd; simp at this; omega
    refine Ev.succ ?_
    simp only [spec_l17Slots.l1]
    exact Ev.neg (by omega) (Ev.now _)
  | cons g rest ih =>
    intro i at_ out hd hi ha hS hs
    have hlt : i < goods.length := by
      rcases Nat.lt_or_ge i goods.length with h | h
      · exact h
      · rw [List.drop_eq_nil_of_le h] at hd; cases hd
    rw [List.drop_eq_getElem_cons hlt] at hd
    obtain ⟨h1, h2⟩ := List.cons.inj hd
    have hgm := hg _ (List.getElem_mem hlt)
    have hcm : 1 ≤ rd counts g ∧ rd counts g ≤ 10 := by
      rw [h1] at hgm
      obtain ⟨q, rfl⟩ := exists_nat_of_nonneg hgm.1
      rw [rd_nat _ _ (by omega)]; exact hc _ (List.getElem_mem _)
    have hmany : many counts (g :: rest) = (rd counts g).toNat + many counts rest := by simp [many]
    refine Ev.succ ?_
    simp only [spec_l17Slots.l1]
    rw [rd_nat _ _ hlt, h1]
    rw [h1] at hgm
    refine Ev.pos (by omega) (Ev.pos (by omega) (Ev.pos (by omega) (Ev.pos (by omega) (Ev.pos (by omega) ?_))))
    have hq : rd counts g = ((rd counts g).toNat : Int) := by omega
    have key := spec_place S counts goods g (goods.length : Int) (i : Int) (fillOut counts (g :: rest) (S.drop at_) out) (rd counts g).toNat at_ out (by omega) (by omega) hS hs (by
      rw [w64 (by omega) (by omega), fillOut, List.drop_drop]
      exact ih (i + 1) (at_ + (rd counts g).toNat) _ h2 (by omega) (by omega) hS (by rw [place_length]; exact hs))
    rw [← hq] at key
    exact key
def slotsOf (picks counts ways : List Int) : List Int := fillOut counts (isl (ltG picks counts) (idx picks.length)) (isl (fun a b => decide (rd ways a < rd ways b)) (idx ways.length)) (List.replicate ways.length 0)
def Picked (picks counts ways : List Int) : Prop := flowOk picks = true ∧ counts.length = picks.length ∧ allIn counts 1 10 = true ∧ counts.sum = (ways.length : Int) ∧ ways.length ≤ 10 ∧ allIn ways 0 1000 = true
instance (picks counts ways : List Int) : Decidable (Picked picks counts ways) := by unfold Picked; infer_instance
theorem spec_l17Slots_ev (picks counts ways : List Int) (h : Picked picks counts ways) : Ev (fun k => spec_l17Slots.f k picks counts ways) (slotsOf picks counts ways) := by
  obtain ⟨h1, h2, h3, h4, h5, h6⟩ := h
  have hp := (flowOk_iff picks).mp h1
  have hc := (allIn_iff _ _ _).mp h3
  have hw := (allIn_iff _ _ _).mp h6
  unfold spec_l17Slots.f
  refine ev_up ways.length (fun k i => spec_l17Slots.l0 k picks counts ways ((ways.take i).map fun w => -w) ways (ways.length : Int) (i : Int)) _ (fun _ => True) trivial ?_ ?_
  · intro _
    refine Ev.succ ?_
    simp only [spec_l17Slots.l0]
    refine Ev.neg (by omega) ?_
    rw [List.take_length]
    have hr := spec_l3Rank_ev (ways.map fun w => -w) (by simp; omega)
    rw [isl_congr_on (lt' := fun a b => decide (rd ways a < rd ways b)) _ (fun a ha b hb => by
      have ha' := (mem_idx _ _).mp ha
      have hb' := (mem_idx _ _).mp hb
      simp only [ltDown, rd_neg _ _ ha'.1, rd_neg _ _ hb'.1]
      exact decide_eq_decide.mpr (by omega)), List.length_map] at hr
    refine Ev.bind hr (Ev.pos (by omega) (Ev.pos (by rw [toNat_nat]; omega) (Ev.bind (spec_l17Goods_ev picks counts (by omega) h2 hp.2 hc) ?_)))
    rw [toNat_nat]
    have hgm := many_idx counts (ltG picks counts) (fun x hx => by have := hc x hx; omega)
    rw [h2] at hgm
    have key := spec_fill (isl (fun a b => decide (rd ways a < rd ways b)) (idx ways.length)) counts (isl (ltG picks counts) (idx picks.length)) hc (fun g hg => by have := isl_idx_mem _ _ hg; omega) (by rw [isl_idx_length]; omega) (isl (ltG picks counts) (idx picks.length)) 0 0 (List.replicate ways.length 0) (by simp) (by omega) (by rw [isl_idx_length]; omega) (by rw [isl_idx_length]; omega) (fun s hs => by have := isl_idx_mem _ _ hs; simp; omega)
    simpa [slotsOf] using key
  · intro i hi _ hn
    have hx := hw _ (List.getElem_mem hi)
    refine Ev.succ ?_
    simp only [spec_l17Slots.l0]
    refine Ev.pos (by omega) (Ev.pos (by omega) (Ev.pos (by omega) (Ev.pos (by simp; omega) ?_)))
    rw [rd_nat _ _ hi, w64 (x := - ways[i]) (by omega) (by omega), w64 (by omega) (by omega)]
    have hn' := hn trivial
    rw [List.take_succ_eq_append_getElem hi, List.map_append, List.map_cons, List.map_nil] at hn'
    exact hn'

theorem spec_l17All_ev (picks counts ways : List Int) (h : picks.length ≤ 1048576) (hc : counts.length ≤ 1048576) (hw : ways.length ≤ 1048576) : Ev (fun k => spec_l17All.f k picks counts ways) (decide (Picked picks counts ways)) := by
  unfold spec_l17All.f
  refine Ev.bind (spec_l4Flow_ev picks (by omega)) ?_
  refine Ev.ite (fun h1 => ?_) (fun h1 => Ev.to (Ev.now _) (decide_eq_false fun q => h1 q.1).symm)
  refine Ev.ite (fun h2 => ?_) (fun h2 => Ev.to (Ev.now _) (decide_eq_false fun q => h2 (by have := q.2.1; omega)).symm)
  have hp := (flowOk_iff picks).mp h1
  have hv : Ev (fun k => spec_l17Counts.f k counts (ways.length : Int)) (decide (allIn counts 1 10 = true ∧ counts.sum = (ways.length : Int) ∧ ways.length ≤ 10)) := by
    unfold spec_l17Counts.f
    refine Ev.bind0 (spec_l1In_eq _ _ _) (Ev.pos (by simp; omega) (Ev.bind (spec_l1All_ev counts 1 10 (by omega)) ?_))
    refine Ev.ite (fun h3 => ?_) (fun h3 => Ev.to (Ev.now _) (decide_eq_false fun q => h3 q.1).symm)
    refine Ev.bind (spec_l3Sum_ev counts 1 10 ((allIn_iff _ _ _).mp h3) (by omega) (by omega) hc) ?_
    refine Ev.ite (fun h4 => ?_) (fun h4 => Ev.to (Ev.now _) (decide_eq_false fun q => h4 q.2.1).symm)
    refine Ev.to (Ev.now _) ?_
    exact decide_eq_decide.mpr ⟨fun q => ⟨h3, h4, by omega⟩, fun q => by have := q.2.2; omega⟩
  refine Ev.bind hv ?_
  refine Ev.ite (fun h3 => ?_) (fun h3 => Ev.to (Ev.now _) (decide_eq_false fun q => h3 (decide_eq_true ⟨q.2.2.1, q.2.2.2.1, q.2.2.2.2.1⟩)).symm)
  have h3' := of_decide_eq_true h3
  refine Ev.bind (spec_l1All_ev ways 0 1000 (by omega)) ?_
  refine Ev.to (Ev.now _) ?_
  cases h6 : allIn ways 0 1000 with
  | true => exact (decide_eq_true ⟨h1, by omega, h3'.1, h3'.2.1, h3'.2.2, h6⟩).symm
  | false => exact (decide_eq_false fun q => by rw [q.2.2.2.2.2] at h6; cases h6).symm
theorem spec_SlotsFor_ev (picks counts ways : List Int) (h : picks.length ≤ 1048576) (hc : counts.length ≤ 1048576) (hw : ways.length ≤ 1048576) : Ev (fun k => spec_SlotsFor.f k picks counts ways) (if Picked picks counts ways then (slotsOf picks counts ways, true) else ([], false)) := by
  unfold spec_SlotsFor.f
  refine Ev.bind (spec_l17All_ev picks counts ways h hc hw) ?_
  refine Ev.ite (fun hh => ?_) (fun hh => ?_)
  · have hh := of_decide_eq_true hh
    rw [if_pos hh]; exact Ev.bind (spec_l17Slots_ev picks counts ways hh) (Ev.now _)
  · rw [if_neg (fun q => hh (decide_eq_true q))]; exact Ev.now _

theorem cmp_goods_ok (picks counts : List Int) (hl : counts.length = picks.length) (hp : ∀ x ∈ picks, 1 ≤ x ∧ x ≤ 30) (hc : ∀ x ∈ counts, 1 ≤ x ∧ x ≤ 10) (a b : Int) (ha : 0 ≤ a ∧ a < (picks.length : Int)) (hb : 0 ≤ b ∧ b < (picks.length : Int)) :
    ∃ t, impl_slotsFor_1.f a b picks counts = some t ∧ ltG picks counts a b = decide (t < 0) := by
  have bp : ∀ j : Int, 0 ≤ j → j < picks.length → 1 ≤ rd picks j ∧ rd picks j ≤ 30 := fun j h0 h1 => by
    obtain ⟨n, rfl⟩ := exists_nat_of_nonneg h0
    rw [rd_nat _ _ (by omega)]; exact hp _ (List.getElem_mem _)
  have bc : ∀ j : Int, 0 ≤ j → j < picks.length → 1 ≤ rd counts j ∧ rd counts j ≤ 10 := fun j h0 h1 => by
    obtain ⟨n, rfl⟩ := exists_nat_of_nonneg h0
    rw [rd_nat _ _ (by omega)]; exact hc _ (List.getElem_mem _)
  have q1 := bp a ha.1 ha.2
  have q2 := bc a ha.1 ha.2
  have q3 := bp b hb.1 hb.2
  have q4 := bc b hb.1 hb.2
  have m1 := mul_small (a := rd picks b) (b := rd counts a) (m := 30) (n := 10) ⟨by omega, by omega⟩ ⟨by omega, by omega⟩
  have m2 := mul_small (a := rd picks a) (b := rd counts b) (m := 30) (n := 10) ⟨by omega, by omega⟩ ⟨by omega, by omega⟩
  unfold impl_slotsFor_1.f
  rw [if_pos hb.1, if_pos hb.2, if_pos ha.1, if_pos (by omega), if_pos ha.2, if_pos (by omega), w64 (x := rd picks b * rd counts a) (by omega) (by omega), w64 (x := rd picks a * rd counts b) (by omega) (by omega), w64 (by omega) (by omega)]
  exact ⟨_, rfl, decide_eq_decide.mpr (by omega)⟩
theorem ltG_weak (picks counts : List Int) (hc : ∀ j : Int, 0 ≤ j → j < picks.length → 1 ≤ rd counts j) : Weak (ltG picks counts) (fun x => 0 ≤ x ∧ x < (picks.length : Int)) := by
  constructor
  · intro a b c ha hb hcc h1 h2
    simp only [ltG, decide_eq_false_iff_not, Int.not_lt] at h1 h2 ⊢
    have ca := hc a ha.1 ha.2
    have cb := hc b hb.1 hb.2
    have cc := hc c hcc.1 hcc.2
    have e1 : rd picks a * rd counts b * rd counts c ≤ rd picks b * rd counts a * rd counts c := Int.mul_le_mul_of_nonneg_right h1 (by omega)
    have e2 : rd picks b * rd counts c * rd counts a ≤ rd picks c * rd counts b * rd counts a := Int.mul_le_mul_of_nonneg_right h2 (by omega)
    refine Int.le_of_mul_le_mul_right (show rd picks a * rd counts c * rd counts b ≤ rd picks c * rd counts a * rd counts b from ?_) (by omega)
    have e3 : rd picks a * rd counts c * rd counts b = rd picks a * rd counts b * rd counts c := by rw [Int.mul_assoc, Int.mul_comm (rd counts c), ← Int.mul_assoc]
    have e4 : rd picks c * rd counts a * rd counts b = rd picks c * rd counts b * rd counts a := by rw [Int.mul_assoc, Int.mul_comm (rd counts a), ← Int.mul_assoc]
    have e5 : rd picks b * rd counts a * rd counts c = rd picks b * rd counts c * rd counts a := by rw [Int.mul_assoc, Int.mul_comm (rd counts a), ← Int.mul_assoc]
    rw [e5] at e1
    rw [e3, e4]; exact Int.le_trans e1 e2
  · intro a b _ _ h
    simp only [ltG, decide_eq_true_eq, decide_eq_false_iff_not, Int.not_lt] at h ⊢
    omega
theorem sortSlots1_ev (picks counts l : List Int) (hl : counts.length = picks.length) (hp : ∀ x ∈ picks, 1 ≤ x ∧ x ≤ 30) (hc : ∀ x ∈ counts, 1 ≤ x ∧ x ≤ 10) (hn : l.length < 20) (hm : ∀ y ∈ l, 0 ≤ y ∧ y < (picks.length : Int)) :
    Ev (fun k => sl4_SortStableFunc.f k l picks counts) (isl (ltG picks counts) l) := by
  have bc : ∀ j : Int, 0 ≤ j → j < picks.length → 1 ≤ rd counts j := fun j h0 h1 => by
    obtain ⟨n, rfl⟩ := exists_nat_of_nonneg h0
    rw [rd_nat _ _ (by omega)]; exact (hc _ (List.getElem_mem _)).1
  have hg : Inserts (fun a b => impl_slotsFor_1.f a b picks counts) l.length (fun k x i => sl6_insertionSortCmpFunc.l0 k x 0 (l.length : Int) i picks counts) (fun k x i j => sl6_insertionSortCmpFunc.l1 k x 0 (l.length : Int) i j picks counts) :=
    ⟨fun _ _ _ => rfl, fun _ _ _ _ => rfl⟩
  have hs := inserts_ev hg (ltG_weak picks counts bc) (fun a b ha hb => cmp_goods_ok picks counts hl hp hc a b ha hb) l rfl (by omega) hm
  unfold sl4_SortStableFunc.f sl8_stableCmpFunc.f
  refine Ev.bind (r := isl (ltG picks counts) l) ?_ (Ev.now _)
  refine Ev.succ ?_
  simp only [sl8_stableCmpFunc.l0]
  refine Ev.neg (by omega) (Ev.bind (by unfold sl6_insertionSortCmpFunc.f; rw [w64 (by omega) (by omega)]; exact hs) ?_)
  refine Ev.succ ?_
  simp only [sl8_stableCmpFunc.l1]
  exact Ev.neg (by omega) (Ev.now _)

theorem sortSlots2_ev (ways l : List Int) (hw : ∀ x ∈ ways, 0 ≤ x ∧ x ≤ 1000) (hn : l.length < 20) (hm : ∀ y ∈ l, 0 ≤ y ∧ y < (ways.length : Int)) :
    Ev (fun k => sl5_SortStableFunc.f k l ways) (isl (fun a b => decide (rd ways a < rd ways b)) l) := by
  have bw : ∀ j : Int, 0 ≤ j → j < ways.length → 0 ≤ rd ways j ∧ rd ways j ≤ 1000 := fun j h0 h1 => by
    obtain ⟨n, rfl⟩ := exists_nat_of_nonneg h0
    rw [rd_nat _ _ (by omega)]; exact hw _ (List.getElem_mem _)
  have hg : Inserts (fun a b => impl_slotsFor_2.f a b ways) l.length (fun k x i => sl7_insertionSortCmpFunc.l0 k x 0 (l.length : Int) i ways) (fun k x i j => sl7_insertionSortCmpFunc.l1 k x 0 (l.length : Int) i j ways) :=
    ⟨fun _ _ _ => rfl, fun _ _ _ _ => rfl⟩
  have hwk : Weak (fun a b => decide (rd ways a < rd ways b)) (fun x => 0 ≤ x ∧ x < (ways.length : Int)) := by
    constructor
    · intro a b c _ _ _ h1 h2; simp only [decide_eq_false_iff_not] at h1 h2 ⊢; omega
    · intro a b _ _ h1; simp only [decide_eq_true_eq, decide_eq_false_iff_not] at h1 ⊢; omega
  have hs := inserts_ev hg hwk (fun a b ha hb => by
    have q1 := bw a ha.1 ha.2
    have q2 := bw b hb.1 hb.2
    unfold impl_slotsFor_2.f
    rw [if_pos ha.1, if_pos ha.2, if_pos hb.1, if_pos hb.2, w64 (by omega) (by omega)]
    exact ⟨_, rfl, decide_eq_decide.mpr (by omega)⟩) l rfl (by omega) hm
  unfold sl5_SortStableFunc.f sl9_stableCmpFunc.f
  refine Ev.bind (r := isl (fun a b => decide (rd ways a < rd ways b)) l) ?_ (Ev.now _)
  refine Ev.succ ?_
  simp only [sl9_stableCmpFunc.l0]
  refine Ev.neg (by omega) (Ev.bind (by unfold sl7_insertionSortCmpFunc.f; rw [w64 (by omega) (by omega)]; exact hs) ?_)
  refine Ev.succ ?_
  simp only [sl9_stableCmpFunc.l1]
  exact Ev.neg (by omega) (Ev.now _)

theorem impl_place (counts goods : List Int) (g : Int) (n : Int) (i : Int) (r : List Int) (m : Nat) : ∀ (t : Int) (slots out : List Int), 0 ≤ t → t + (m : Int) = rd counts g → rd counts g ≤ 10 → m ≤ slots.length → slots.length ≤ 1048576 → (∀ s ∈ slots, 0 ≤ s ∧ s < (out.length : Int)) →
    Ev (fun k => impl_slotsFor.l2 k (slots.drop m) (place g m slots out) goods n (wrap64 (i + 1)) counts) r → Ev (fun k => impl_slotsFor.l3 k slots out g goods n i (rd counts g) t counts) r := by
  induction m with
  | zero =>
    intro t slots out _ ht _ _ _ _ hd
    refine Ev.succ ?_
    simp only [impl_slotsFor.l3]
    rw [place_zero, List.drop_zero] at hd
    exact Ev.neg (by omega) hd
  | succ m ih =>
    intro t slots out h0 ht h10 hm hS hs hd
    cases slots with
    | nil => simp at hm
    | cons s ss =>
      have hx := hs s (by simp)
      have hr : rd (s :: ss) 0 = s := by have := rd_nat (s :: ss) 0 (by simp); simpa using this
      simp only [List.length_cons] at hm hS
      refine Ev.succ ?_
      simp only [impl_slotsFor.l3]
      rw [hr]
      refine Ev.pos (by omega) (Ev.pos (by simp only [List.length_cons]; omega) (Ev.pos (by omega) (Ev.pos (by omega) (Ev.pos (by simp only [List.length_cons]; omega) ?_))))
      rw [w64 (x := t + 1) (by omega) (by omega), show ((1 : Int)).toNat = 1 from rfl, List.drop_succ_cons, List.drop_zero]
      refine ih (t + 1) ss (out.set s.toNat g) (by omega) (by omega) h10 (by omega) (by omega) (fun y hy => by rw [List.length_set]; exact hs y (by simp [hy])) ?_
      rw [place, List.drop_succ_cons] at hd
      exact hd
theorem impl_fill (counts goods : List Int) (hc : ∀ x ∈ counts, 1 ≤ x ∧ x ≤ 10) (hg : ∀ g ∈ goods, 0 ≤ g ∧ g < (counts.length : Int)) (hgl : goods.length ≤ 1048576) (rest : List Int) : ∀ (i : Nat) (slots out : List Int), goods.drop i = rest → i ≤ goods.length → many counts rest ≤ slots.length → slots.length ≤ 1048576 → (∀ s ∈ slots, 0 ≤ s ∧ s < (out.length : Int)) →
    Ev (fun k => impl_slotsFor.l2 k slots out goods (goods.length : Int) (i : Int) counts) (fillOut counts rest slots out) := by
  induction rest with
  | nil =>
    intro i slots out hd hi _ _ _
    have : i = goods.length := by have := congrArg List.length hd; simp at this; omega
    refine Ev.succ ?_
    simp only [impl_slotsFor.l2]
    exact Ev.neg (by omega) (Ev.now _)
  | cons g rest ih =>
    intro i slots out hd hi ha hS hs
    have hlt : i < goods.length := by
      rcases Nat.lt_or_ge i goods.length with h | h
      · exact h
      · rw [List.drop_eq_nil_of_le h] at hd; cases hd
    rw [List.drop_eq_getElem_cons hlt] at hd
    obtain ⟨h1, h2⟩ := List.cons.inj hd
    have hgm := hg _ (List.getElem_mem hlt)
    rw [h1] at hgm
    have hcm : 1 ≤ rd counts g ∧ rd counts g ≤ 10 := by
      obtain ⟨q, rfl⟩ := exists_nat_of_nonneg hgm.1
      rw [rd_nat _ _ (by omega)]; exact hc _ (List.getElem_mem _)
    have hmany : many counts (g :: rest) = (rd counts g).toNat + many counts rest := by simp [many]
    refine Ev.succ ?_
    simp only [impl_slotsFor.l2]
    rw [rd_nat _ _ hlt, h1]
    refine Ev.pos (by omega) (Ev.pos (by omega) (Ev.pos (by omega) (Ev.pos (by omega) (Ev.pos (by omega) ?_))))
    refine impl_place counts goods g (goods.length : Int) (i : Int) (fillOut counts (g :: rest) slots out) (rd counts g).toNat 0 slots out (by omega) (by omega) hcm.2 (by omega) hS hs ?_
    rw [w64 (by omega) (by omega), fillOut]
    exact ih (i + 1) _ _ h2 (by omega) (by rw [List.length_drop]; omega) (by rw [List.length_drop]; omega) (fun s hs' => by rw [place_length]; exact hs s (List.mem_of_mem_drop hs'))
theorem impl_slotsFor_ev (picks counts ways : List Int) (h : Picked picks counts ways) : Ev (fun k => impl_slotsFor.f k picks counts ways) (slotsOf picks counts ways) := by
  obtain ⟨h1, h2, h3, h4, h5, h6⟩ := h
  have hp := (flowOk_iff picks).mp h1
  have hc := (allIn_iff _ _ _).mp h3
  have hw := (allIn_iff _ _ _).mp h6
  unfold impl_slotsFor.f
  refine Ev.pos (by omega) (Ev.pos (by rw [toNat_nat]; omega) ?_)
  rw [toNat_nat]
  refine ev_up picks.length (fun k i => impl_slotsFor.l0 k (idx i) ([] : List Int) (List.replicate ways.length 0) (picks.length : Int) (i : Int) picks counts ways) _ (fun _ => True) trivial ?_ ?_
  · intro _
    refine Ev.succ ?_
    simp only [impl_slotsFor.l0]
    refine Ev.neg (by omega) ?_
    refine ev_up ways.length (fun k i => impl_slotsFor.l1 k (idx picks.length) (idx i) (List.replicate ways.length 0) (ways.length : Int) (i : Int) picks counts ways) _ (fun _ => True) trivial ?_ ?_
    · intro _
      refine Ev.succ ?_
      simp only [impl_slotsFor.l1]
      refine Ev.neg (by omega) (Ev.bind (sortSlots1_ev picks counts (idx picks.length) h2 hp.2 hc (by rw [idx_length]; omega) (fun y hy => (mem_idx _ _).mp hy)) (Ev.bind (sortSlots2_ev ways (idx ways.length) hw (by rw [idx_length]; omega) (fun y hy => (mem_idx _ _).mp hy)) ?_))
      have hgm := many_idx counts (ltG picks counts) (fun x hx => by have := hc x hx; omega)
      rw [h2] at hgm
      have key := impl_fill counts (isl (ltG picks counts) (idx picks.length)) hc (fun g hg => by have := isl_idx_mem _ _ hg; omega) (by rw [isl_idx_length]; omega) (isl (ltG picks counts) (idx picks.length)) 0 (isl (fun a b => decide (rd ways a < rd ways b)) (idx ways.length)) (List.replicate ways.length 0) (by simp) (by omega) (by rw [isl_idx_length]; omega) (by rw [isl_idx_length]; omega) (fun s hs => by have := isl_idx_mem _ _ hs; simp; omega)
      rw [isl_idx_length] at key
      rw [idx_length]
      exact key
    · intro i hi _ hn
      refine Ev.succ ?_
      simp only [impl_slotsFor.l1]
      refine Ev.pos (by omega) (Ev.pos (by rw [idx_length]; omega) ?_)
      rw [w64 (by omega) (by omega), ← idx_succ]
      exact hn trivial
  · intro i hi _ hn
    refine Ev.succ ?_
    simp only [impl_slotsFor.l0]
    refine Ev.pos (by omega) (Ev.pos (by rw [idx_length]; omega) ?_)
    rw [w64 (by omega) (by omega), ← idx_succ]
    exact hn trivial

theorem impl_arePicked_ev (picks counts ways : List Int) (h : picks.length ≤ 1048576) (hc : counts.length ≤ 1048576) (hw : ways.length ≤ 1048576) : Ev (fun k => impl_arePicked.f k picks counts ways) (decide (Picked picks counts ways)) := by
  unfold impl_arePicked.f
  refine Ev.bind (impl_isFlow_ev picks (by omega)) ?_
  refine Ev.ite (fun h1 => ?_) (fun h1 => Ev.to (Ev.now _) (decide_eq_false fun q => h1 q.1).symm)
  refine Ev.ite (fun h2 => ?_) (fun h2 => Ev.to (Ev.now _) (decide_eq_false fun q => h2 (by have := q.2.1; omega)).symm)
  have hp := (flowOk_iff picks).mp h1
  have hv : Ev (fun k => impl_areHoused.f k counts) (decide (allIn counts 1 10 = true ∧ counts.sum ≤ 10)) := by
    unfold impl_areHoused.f
    refine Ev.bind0 (impl_within_eq _ _ _) (Ev.pos (by simp; omega) (Ev.bind (impl_allWithin_ev counts 1 10 (by omega)) ?_))
    refine Ev.ite (fun h3 => ?_) (fun h3 => Ev.to (Ev.now _) (decide_eq_false fun q => h3 q.1).symm)
    refine Ev.bind (impl_sum_ev counts 1 10 ((allIn_iff _ _ _).mp h3) (by omega) (by omega) hc) ?_
    refine Ev.to (Ev.now _) ?_
    exact decide_eq_decide.mpr ⟨fun q => ⟨h3, q⟩, fun q => q.2⟩
  have hv2 : Ev (fun k => impl_areWays.f k counts ways) (decide (allIn counts 1 10 = true ∧ counts.sum = (ways.length : Int) ∧ ways.length ≤ 10 ∧ allIn ways 0 1000 = true)) := by
    unfold impl_areWays.f
    refine Ev.bind hv ?_
    refine Ev.ite (fun h3 => ?_) (fun h3 => Ev.to (Ev.now _) (decide_eq_false fun q => h3 (decide_eq_true ⟨q.1, by have := q.2.1; have := q.2.2.1; omega⟩)).symm)
    have h3' := of_decide_eq_true h3
    refine Ev.bind (impl_sum_ev counts 1 10 ((allIn_iff _ _ _).mp h3'.1) (by omega) (by omega) hc) ?_
    refine Ev.ite (fun h4 => ?_) (fun h4 => Ev.to (Ev.now _) (decide_eq_false fun q => h4 q.2.1.symm).symm)
    refine Ev.bind (impl_allWithin_ev ways 0 1000 (by omega)) ?_
    refine Ev.to (Ev.now _) ?_
    cases h6 : allIn ways 0 1000 with
    | true => exact (decide_eq_true ⟨h3'.1, h4.symm, by have := h3'.2; omega, rfl⟩).symm
    | false => exact (decide_eq_false fun q => by cases q.2.2.2).symm
  refine Ev.bind hv2 ?_
  refine Ev.to (Ev.now _) ?_
  exact decide_eq_decide.mpr ⟨fun q => ⟨h1, by omega, q.1, q.2.1, q.2.2.1, q.2.2.2⟩, fun q => ⟨q.2.2.1, q.2.2.2.1, q.2.2.2.2.1, q.2.2.2.2.2⟩⟩
theorem impl_SlotsFor_ev (picks counts ways : List Int) (h : picks.length ≤ 1048576) (hc : counts.length ≤ 1048576) (hw : ways.length ≤ 1048576) : Ev (fun k => impl_SlotsFor.f k picks counts ways) (if Picked picks counts ways then (slotsOf picks counts ways, true) else ([], false)) := by
  unfold impl_SlotsFor.f
  refine Ev.bind (impl_arePicked_ev picks counts ways h hc hw) ?_
  refine Ev.ite (fun hh => ?_) (fun hh => ?_)
  · have hh := of_decide_eq_true hh
    rw [if_pos hh]; exact Ev.bind (impl_slotsFor_ev picks counts ways hh) (Ev.now _)
  · rw [if_neg (fun q => hh (decide_eq_true q))]; exact Ev.now _
theorem fillOut_length (counts gs : List Int) : ∀ s out : List Int, (fillOut counts gs s out).length = out.length := by
  induction gs with
  | nil => intro s out; rfl
  | cons g gs ih => intro s out; rw [fillOut, ih, place_length]
theorem slotsFor_length (picks counts ways : List Int) : (if Picked picks counts ways then (slotsOf picks counts ways, true) else (([] : List Int), false)).1.length ≤ 10 := by
  split
  · rename_i h
    dsimp only; unfold slotsOf; rw [fillOut_length, List.length_replicate]; exact h.2.2.2.2.1
  · simp

theorem w64n {i n : Nat} (h : i < n) (hn : n ≤ 4611686018427387904) : wrap64 ((i : Int) + 1) = ((i + 1 : Nat) : Int) := by rw [w64 (by omega) (by omega)]; rfl
theorem laws_sameInts_ev (a b : List Int) (hl : a.length ≤ 4611686018427387904) : Ev (fun k => laws_sameInts.f k a b) (decide (a = b)) := by
  unfold laws_sameInts.f
  refine Ev.ite (fun h => ?_) (fun h => ?_)
  · have hlen : a.length = b.length := by omega
    have gen : ∀ (d i : Nat), i + d = a.length → Ev (fun k => laws_sameInts.l0 k a b (a.length : Int) (i : Int)) (decide (a.drop i = b.drop i)) := by
      intro d
      induction d with
      | zero =>
        intro i hi
        rw [List.drop_of_length_le (by omega), List.drop_of_length_le (by omega)]
        refine Ev.succ ?_
        simp only [laws_sameInts.l0]; exact Ev.neg (by omega) (by simpa using Ev.now true)
      | succ d ih =>
        intro i hi
        have hi' : i < a.length := by omega
        have hi2 : i < b.length := by omega
        rw [List.drop_eq_getElem_cons hi', List.drop_eq_getElem_cons hi2]
        refine Ev.succ ?_
        simp only [laws_sameInts.l0]
        refine Ev.pos (by omega) (Ev.pos (by omega) (Ev.pos (by omega) (Ev.pos (by omega) ?_)))
        rw [rd_nat a i hi', rd_nat b i hi2, w64n hi' (by omega)]
        refine Ev.ite (fun h => ?_) (fun h => ?_)
        · have e : decide (a[i] :: a.drop (i + 1) = b[i] :: b.drop (i + 1)) = decide (a.drop (i + 1) = b.drop (i + 1)) := by
            rw [decide_eq_decide, h]; exact ⟨fun h => (List.cons.inj h).2, fun h => by rw [h]⟩
          rw [e]; exact ih (i + 1) (by omega)
        · have e : decide (a[i] :: a.drop (i + 1) = b[i] :: b.drop (i + 1)) = false := by
            rw [decide_eq_false_iff_not]; intro h2; injection h2 with h3; exact h h3
          rw [e]; exact Ev.now _
    simpa using gen a.length 0 (by omega)
  · have e : decide (a = b) = false := by rw [decide_eq_false_iff_not]; rintro rfl; exact h rfl
    rw [e]; exact Ev.now _
theorem slices_Equal_ev (a b : List Int) (hl : a.length ≤ 1048576) : Ev (fun k => slices_Equal_int_int.f k a b) (decide (a = b)) := by
  unfold slices_Equal_int_int.f
  refine Ev.ite (fun h => ?_) (fun h => ?_)
  · have hlen : a.length = b.length := by omega
    have gen : ∀ (d i : Nat), i + d = a.length → Ev (fun k => slices_Equal_int_int.l0 k a b (a.length : Int) (i : Int)) (decide (a.drop i = b.drop i)) := by
      intro d
      induction d with
      | zero =>
        intro i hi
        rw [List.drop_of_length_le (by omega), List.drop_of_length_le (by omega)]
        refine Ev.succ ?_
        simp only [slices_Equal_int_int.l0]; exact Ev.neg (by omega) (by simpa using Ev.now true)
      | succ d ih =>
        intro i hi
        have hi' : i < a.length := by omega
        have hi2 : i < b.length := by omega
        rw [List.drop_eq_getElem_cons hi', List.drop_eq_getElem_cons hi2]
        refine Ev.succ ?_
        simp only [slices_Equal_int_int.l0]
        refine Ev.pos (by omega) (Ev.pos (by omega) (Ev.pos (by omega) (Ev.pos (by omega) ?_)))
        rw [rd_nat a i hi', rd_nat b i hi2, w64n hi' (by omega)]
        refine Ev.ite (fun h => ?_) (fun h => ?_)
        · have e : decide (a[i] :: a.drop (i + 1) = b[i] :: b.drop (i + 1)) = decide (a.drop (i + 1) = b.drop (i + 1)) := by
            rw [decide_eq_decide, h]; exact ⟨fun h => (List.cons.inj h).2, fun h => by rw [h]⟩
          rw [e]; exact ih (i + 1) (by omega)
        · have e : decide (a[i] :: a.drop (i + 1) = b[i] :: b.drop (i + 1)) = false := by
            rw [decide_eq_false_iff_not]; intro h2; injection h2 with h3; exact h h3
          rw [e]; exact Ev.now _
    simpa using gen a.length 0 (by omega)
  · exact Ev.to (Ev.now _) (decide_eq_false fun e => h (by rw [e])).symm

def dot : List Int → List Int → Int
  | a :: tl_, b :: bs => a * b + dot tl_ bs
  | _, _ => 0
theorem dot_mid (v q : List Int) (x a b : Int) : ∀ (u p : List Int), u.length = p.length → dot (u ++ x :: v) (p ++ a :: q) = dot (u ++ x :: v) (p ++ b :: q) + x * (a - b) := by
  intro u
  induction u with
  | nil =>
    intro p hp
    obtain rfl : p = [] := List.length_eq_zero_iff.mp (by simpa using hp.symm)
    simp only [List.nil_append, dot]
    rw [Int.mul_sub]; omega
  | cons c u ih =>
    intro p hp
    cases p with
    | nil => simp at hp
    | cons d p =>
      simp only [List.cons_append, dot]
      rw [ih p (by simpa using hp)]; omega
theorem split_at {α : Type} (l : List α) (n : Nat) (h : n < l.length) : ∃ u x v, l = u ++ x :: v ∧ u.length = n :=
  ⟨l.take n, l[n], l.drop (n + 1), by rw [← List.drop_eq_getElem_cons h, List.take_append_drop], by rw [List.length_take]; omega⟩
theorem rearr : ∀ (w a b : List Int), w.Pairwise (fun x y => x ≤ y) → a.Pairwise (fun x y => y ≤ x) → a.Perm b → a.length = w.length → dot w a ≤ dot w b := by
  intro w
  induction w with
  | nil =>
    intro a b _ _ hp hl
    obtain rfl : a = [] := List.length_eq_zero_iff.mp hl
    obtain rfl : b = [] := hp.symm.eq_nil
    exact Int.le_refl _
  | cons w0 ws ih =>
    intro a b hw ha hp hl
    cases a with
    | nil => simp at hl
    | cons a0 tl_ =>
      have hl' : tl_.length = ws.length := by simpa using hl
      obtain ⟨hw0, hws⟩ := List.pairwise_cons.mp hw
      obtain ⟨ha0, has⟩ := List.pairwise_cons.mp ha
      obtain ⟨p, q, rfl⟩ := List.append_of_mem (hp.mem_iff.mp (List.mem_cons_self : a0 ∈ a0 :: tl_))
      have h1 : tl_.Perm (p ++ q) := List.Perm.cons_inv (hp.trans List.perm_middle)
      cases p with
      | nil =>
        have := ih tl_ q hws has h1 hl'
        simp only [List.nil_append, dot]; omega
      | cons b0 p =>
        have hb0 : b0 ≤ a0 := ha0 b0 (h1.mem_iff.mpr (by simp))
        have h2 : tl_.Perm (p ++ b0 :: q) := h1.trans (by rw [List.cons_append]; exact List.perm_middle.symm)
        have h3 := ih tl_ (p ++ b0 :: q) hws has h2 hl'
        have hlen : p.length < ws.length := by have := h2.length_eq; simp at this; omega
        obtain ⟨u, x, v, rfl, hu⟩ := split_at ws p.length hlen
        have h4 := dot_mid v q x a0 b0 u p hu
        have hx := hw0 x (by simp)
        have h5 : w0 * (a0 - b0) ≤ x * (a0 - b0) := Int.mul_le_mul_of_nonneg_right hx (by omega)
        rw [Int.mul_sub w0] at h5
        simp only [List.cons_append, dot]
        omega
theorem dot_map (S : List Int) (f g : Int → Int) : dot (S.map f) (S.map g) = (S.map fun s => f s * g s).sum := by
  induction S with
  | nil => rfl
  | cons a S ih => simp only [List.map_cons, dot, List.sum_cons, ih]
theorem idx_zero_succ (n : Nat) : idx (n + 1) = 0 :: (idx n).map (fun x => x + 1) := by
  unfold idx
  rw [List.range_succ_eq_map]
  simp [List.map_map, Function.comp_def]
theorem rd_cons_succ (a : Int) (l : List Int) (x : Int) (h : 0 ≤ x) : rd (a :: l) (x + 1) = rd l x := by
  obtain ⟨n, rfl⟩ := exists_nat_of_nonneg h
  rw [show (n : Int) + 1 = ((n + 1 : Nat) : Int) by omega]
  rcases Nat.lt_or_ge n l.length with hn | hn
  · rw [rd_nat _ _ (by simp; omega), rd_nat _ _ hn]; rfl
  · simp [rd, hn]
theorem dot_idx : ∀ (w L : List Int), w.length = L.length → dot w L = ((idx w.length).map fun s => rd w s * rd L s).sum := by
  intro w
  induction w with
  | nil => intro L _; simp [dot, idx]
  | cons a w ih =>
    intro L hl
    cases L with
    | nil => simp at hl
    | cons b L =>
      have hl' : w.length = L.length := by simpa using hl
      rw [List.length_cons, idx_zero_succ, List.map_cons, List.sum_cons, dot, ih L hl']
      have e : ((idx w.length).map (fun x => x + 1)).map (fun s => rd (a :: w) s * rd (b :: L) s) = (idx w.length).map fun s => rd w s * rd L s := by
        rw [List.map_map]
        refine List.map_congr_left fun x hx => ?_
        have := (mem_idx _ _).mp hx
        simp only [Function.comp_apply]
        rw [rd_cons_succ _ _ _ this.1, rd_cons_succ _ _ _ this.1]
      rw [e]
      have e0 : ∀ (c : Int) (l : List Int), rd (c :: l) 0 = c := fun c l => by have := rd_nat (c :: l) 0 (by simp); simpa using this
      rw [e0, e0]
theorem perm_sum {l l' : List Int} (h : l.Perm l') : l.sum = l'.sum := by
  induction h with
  | nil => rfl
  | cons a _ ih => simp [ih]
  | swap a b l => simp only [List.sum_cons]; omega
  | trans _ _ h1 h2 => rw [h1, h2]
theorem dot_perm (w L S : List Int) (hl : w.length = L.length) (hS : S.Perm (idx w.length)) : dot w L = dot (S.map (rd w)) (S.map (rd L)) := by
  rw [dot_idx w L hl, dot_map]
  exact perm_sum (hS.symm.map _)
def writeAll : List Int → List Int → List Int → List Int
  | s :: ss, g :: gs, out => writeAll ss gs (out.set s.toNat g)
  | _, _, out => out
theorem writeAll_nil (S out : List Int) : writeAll S [] out = out := by cases S <;> rfl
theorem writeAll_length (S : List Int) : ∀ G out : List Int, (writeAll S G out).length = out.length := by
  induction S with
  | nil => intro G out; rfl
  | cons s S ih =>
    intro G out
    cases G with
    | nil => rfl
    | cons g G => rw [writeAll, ih, List.length_set]
theorem writeAll_append (X Y : List Int) : ∀ S out : List Int, writeAll S (X ++ Y) out = writeAll (S.drop X.length) Y (writeAll S X out) := by
  induction X with
  | nil => intro S out; rw [writeAll_nil]; rfl
  | cons x X ih =>
    intro S out
    cases S with
    | nil => rfl
    | cons s S => rw [List.cons_append, writeAll, ih]; rfl
theorem rd_setL (l : List Int) (i j : Int) (v : Int) (h0 : 0 ≤ i) (hi : i < l.length) (hj : 0 ≤ j) : rd (l.set i.toNat v) j = if j = i then v else rd l j := by
  obtain ⟨a, rfl⟩ := exists_nat_of_nonneg h0
  obtain ⟨b, rfl⟩ := exists_nat_of_nonneg hj
  rw [toNat_nat]
  have ha : a < l.length := by omega
  rcases Nat.lt_or_ge b l.length with hb | hb
  · rw [rd_nat _ _ (by simpa using hb), rd_nat _ _ hb, List.getElem_set]
    by_cases e : a = b
    · subst e; simp
    · rw [if_neg e, if_neg (by omega)]
  · rw [if_neg (by omega)]; simp [rd, hb]
theorem writeAll_other (S : List Int) : ∀ (G out : List Int) (j : Int), (∀ s ∈ S, 0 ≤ s ∧ s < (out.length : Int)) → 0 ≤ j → j ∉ S → rd (writeAll S G out) j = rd out j := by
  induction S with
  | nil => intro G out j _ _ _; rfl
  | cons s S ih =>
    intro G out j hs hj hn
    cases G with
    | nil => rfl
    | cons g G =>
      rw [writeAll, ih G _ j (by rw [List.length_set]; exact fun x hx => hs x (by simp [hx])) hj (fun h => hn (by simp [h]))]
      have h1 := hs s (by simp)
      rw [rd_setL _ _ _ _ h1.1 h1.2 hj, if_neg (fun e => hn (by simp [e]))]
theorem writeAll_read (S : List Int) : ∀ (G out : List Int), S.Nodup → (∀ s ∈ S, 0 ≤ s ∧ s < (out.length : Int)) → G.length = S.length → S.map (rd (writeAll S G out)) = G := by
  induction S with
  | nil => intro G out _ _ hl; exact (List.length_eq_zero_iff.mp (by simpa using hl)).symm
  | cons s S ih =>
    intro G out hn hs hl
    cases G with
    | nil => simp at hl
    | cons g G =>
      obtain ⟨h1, h2⟩ := List.nodup_cons.mp hn
      have hs0 := hs s (by simp)
      have hs' : ∀ x ∈ S, 0 ≤ x ∧ x < ((out.set s.toNat g).length : Int) := by rw [List.length_set]; exact fun x hx => hs x (by simp [hx])
      rw [List.map_cons, writeAll, ih G _ h2 hs' (by simpa using hl), writeAll_other S G _ s hs' hs0.1 h1, rd_setL _ _ _ _ hs0.1 hs0.2 hs0.1, if_pos rfl]
theorem idx_nodup (n : Nat) : (idx n).Nodup := by
  unfold idx
  refine List.Pairwise.map _ ?_ List.nodup_range
  intro a b h; omega
theorem isl_idx_nodup (lt : Int → Int → Bool) (n : Nat) : (isl lt (idx n)).Nodup := (isl_perm lt _).nodup_iff.mpr (idx_nodup n)
theorem map_rd_idx (l : List Int) : (idx l.length).map (rd l) = l := by
  apply List.ext_getElem
  · simp [idx_length]
  · intro i h1 h2
    simp only [List.getElem_map]
    have : (idx l.length)[i]'(by rw [idx_length]; exact h2) = (i : Int) := by simp [idx]
    rw [this, rd_nat _ _ h2]
theorem isl_map_asc (ways : List Int) (n : Nat) (hn : n ≤ ways.length) : ((isl (fun a b => decide (rd ways a < rd ways b)) (idx n)).map (rd ways)).Pairwise (fun x y => x ≤ y) := by
  have hw : Weak (fun a b => decide (rd ways a < rd ways b)) (fun _ => True) := ⟨fun a b c _ _ _ h1 h2 => by simp only [decide_eq_false_iff_not] at h1 h2 ⊢; omega, fun a b _ _ h => by simp only [decide_eq_true_eq, decide_eq_false_iff_not] at h ⊢; omega⟩
  have := isl_sorted hw (idx n) (fun _ _ => trivial) (idx n).length (Nat.le_refl _)
  rw [List.take_length] at this
  refine List.Pairwise.map _ ?_ this
  intro a b h; simp only [decide_eq_false_iff_not] at h; omega
end Go.Proofs.Ytneojimdhnhkeaa.Pure
