/- There is a cover as small as a matching is great, and no smaller one (Konig), for drawn fits: no condition but the statement's own. -/
import Derived.Test.YtpagpbamdpllnaaCFnCovers0
import Derived.Test.YtpagpbamdpllnaaCFnCovers1
set_option linter.unusedVariables false
set_option linter.unusedSimpArgs false
namespace Go.Proofs.Ytpagpbamdpllnaa.Print
open Go.RowKit Go.Proofs.YtpagpbamdpllnaaW.PrintWords Go.Proofs.YtpagpbamdpllnaaW.PrintLast Go.Proofs.YtpagpbamdpllnaaW.PrintMore
attribute [local go_sem] max2_int min2_int max_two min_two max_three min_three max_four min_four

def spec_DrawCoverOf.f (k:Nat) (l0:List Int):Option ((List (List Bool))):=(spec_DrawGoodFits.f k l0).bind fun t101=>(some t101)
set_option maxHeartbeats 8000000 in
set_option maxRecDepth 100000 in
theorem spec_DrawCoverOf.calls (k:Nat) (A0:Option Addr) (c0:Nat) (l0:List Int) (r:List (List Bool)) (w:World) (hr0:Kd.C (Kd.int .u8) w A0 l0.length l0) (hc0:l0.length≤c0) (h:spec_DrawCoverOf.f k l0=some r) :
    Calls Try.prog 74 #[.slice A0 l0.length c0] w fun e w'=>∃ v0_:Value,e= .returned (v0_)∧Kd.N (Kd.slice 4 Kd.bool) 88 w' w.heap.size (fun k_=>(w.heap.size≤k_)) v0_ r∧Below w.heap.size w w':=by
  have HR0:=aM hr0;have HC0:=aM hc0;clear hr0 hc0;have HB:=aM (Below.refl w.heap.size w);have H:((spec_DrawGoodFits.f k l0).bind fun t101=>(some t101))=some r:=h;clear h;replace H:=Option.bind_eq_some_iff.mp H;obtain ⟨t101,A20,H⟩:=H;replace H:(some t101)=some r:=H;have A2:=aM A20;clear A20;obtain rfl:=Option.some.inj H;go_enter Try.func74,Try.ntmps74;go_wp2_with (first|((with_reducible refine Qh (f:=165) rfl ?_);refine goesL_ (some 4) rfl rfl Try.func165 (by kernel_rfl) rfl #[.slice A0 l0.length c0] rfl (by (try simp only [aD,aE,aF]);first|done|rfl|(simp only [aG,aH];rfl)) ?_;(with_reducible refine (spec_DrawGoodFits.calls k _ _ l0 t101 _ ?side1 ?side2 A2.out).mono ?_);(case side1=>repeat (first|exact HR0.out|(with_reducible refine Kd.Qj ?_ _)|(with_reducible refine Kd.Qk ?_ _)|(with_reducible refine Kd.C_drew ?_)));(case side2=>exact HC0.out);rintro e w3 ⟨v102,rfl,ho0,hb⟩;refine ⟨_,rfl,?_⟩;have n0_:=aM (Kd.N_lower (Kd.N_mono (ok':=fun k_=>(w.heap.size≤k_)) ho0 (fun k_ hk_=>(Nat.le_trans (Ql (by repeat (first|(with_reducible first|exact HB.out|apply Qb|apply Qa|apply Qc)|exact HB.out))) hk_))) (Ql (by repeat (first|(with_reducible first|exact HB.out|apply Qb|apply Qa|apply Qc)|exact HB.out))));have n1_:=aM (Qi (by repeat (first|(with_reducible first|exact HB.out|apply Qb|apply Qa|apply Qc)|exact HB.out)) hb);clear HB;have HO103:=n0_;have HB:=n1_;clear n0_ n1_;(try clear hb);(try clear hb2);(try clear hk);(try clear hi);(try clear ho0)))
  go_ret
  exact ⟨_,by first|rfl|(simp [errW_none,errW_some] <;> rfl)|(simp [*,errW_none,errW_some] <;> rfl),by (with_reducible repeat (first|apply Kd.N_alloc|apply Kd.N_drewN|apply Kd.N_drew));exact HO103.out,by repeat (first|(with_reducible first|exact HB.out|apply Qb|apply Qa|apply Qc)|exact HB.out)⟩

def impl_within.f (a0:Int) (a1:Int) (a2:Int):Option (Bool):=if a0 ≥ a1 then (some (decide (a0≤a2))) else (some false)
set_option maxHeartbeats 8000000 in
set_option maxRecDepth 100000 in
theorem impl_within.calls (a0:Int) (a1:Int) (a2:Int) (r:Bool) (w:World) (h:impl_within.f a0 a1 a2=some r) :
    Calls Try.prog 113 #[.int .i64 a0,.int .i64 a1,.int .i64 a2] w fun e w'=>e= .returned (.bool r)∧Drawn0 w w':=by
  have H:(if a0 ≥ a1 then (some (decide (a0≤a2))) else (some false))=some r:=h;clear h;by_cases c4:a0 ≥ a1
  ·rw [if_pos c4] at H;have c4b0:decide (a1≤a0)=true:=decide_eq_true c4;clear c4;obtain rfl:=Option.some.inj H;go_enter Try.func113,Try.ntmps113;go_wp2
   go_ret
   exact ⟨by first|rfl|(simp;done)|(simp [*];done),by repeat (first|exact Drawn0.refl _|apply Drawn0.step)⟩
  ·rw [if_neg c4] at H;have c4b0:decide (a1≤a0)=false:=decide_eq_false c4;clear c4;obtain rfl:=Option.some.inj H;go_enter Try.func113,Try.ntmps113;go_wp2
   go_ret
   exact ⟨by first|rfl|(simp;done)|(simp [*];done),by repeat (first|exact Drawn0.refl _|apply Drawn0.step)⟩

def impl_allWithin_1.f (a0:Int) (a1_0_0:Int) (a2_0_0:Int):Option (Bool):=(impl_within.f a0 a1_0_0 a2_0_0).bind fun t101=>(some (!t101))
set_option maxHeartbeats 8000000 in
set_option maxRecDepth 100000 in
theorem impl_allWithin_1.calls (a0:Int) (g1_0:Nat) (a1_0_0:Int) (g2_0:Nat) (a2_0_0:Int) (r:Bool) (w:World) (hg1_0:w.heap[g1_0]? = some (.cells #[.int .i64 a1_0_0] 3 (0,0))) (hg2_0:w.heap[g2_0]? = some (.cells #[.int .i64 a2_0_0] 3 (0,0))) (h:impl_allWithin_1.f a0 a1_0_0 a2_0_0=some r) :
    Calls Try.prog 209 #[.int .i64 a0,.pointer (some ⟨g1_0,0,none⟩),.pointer (some ⟨g2_0,0,none⟩)] w fun e w'=>e= .returned (.bool r)∧Drawn0 w w':=by
  have BK46:=aM hg1_0;clear hg1_0;have BK52:=aM hg2_0;clear hg2_0;have H:((impl_within.f a0 a1_0_0 a2_0_0).bind fun t101=>(some (!t101)))=some r:=h;clear h;replace H:=Option.bind_eq_some_iff.mp H;obtain ⟨t101,A40,H⟩:=H;replace H:(some (!t101))=some r:=H;have A4:=aM A40;clear A40;obtain rfl:=Option.some.inj H;have hcz5_0:w.cell? ⟨g1_0,0,none⟩=some (.int .i64 a1_0_0):=(blk_cell BK46.out 0).trans rfl;have hfz5_0:=blk_frozen BK46.out 0;have hcz6_0:w.cell? ⟨g2_0,0,none⟩=some (.int .i64 a2_0_0):=(blk_cell BK52.out 0).trans rfl;have hfz6_0:=blk_frozen BK52.out 0;go_enter Try.func209,Try.ntmps209;go_wp2_with (first|((with_reducible refine Qh (f:=113) rfl ?_);refine goesL_ (some 8) rfl rfl Try.func113 (by kernel_rfl) rfl #[.int .i64 a0,.int .i64 a1_0_0,.int .i64 a2_0_0] rfl (by (try simp only [aD,aE,aF]);first|done|rfl|(simp only [aG,aH];rfl)) ?_;(with_reducible refine (impl_within.calls a0 a1_0_0 a2_0_0 t101 _ A4.out).mono ?_);rintro e w' ⟨rfl,⟨nd,rfl⟩⟩;refine ⟨_,rfl,?_⟩))
  go_ret
  exact ⟨by first|rfl|(simp;done)|(simp [*];done),by repeat (first|exact Drawn0.refl _|apply Drawn0.step)⟩

def sl3_IndexFunc.l0:Nat→List Int→Int→Int→Int→Int→Option (Int)
  |0,_,_,_,_,_=>none
  |k+1,x0,x7,x8,x47000,x48000=>if x8<x7 then (if 0≤x8 then (if x8<(x0.length:Int) then ((impl_allWithin_1.f (rd x0 x8) x47000 x48000).bind fun t102=>(if t102=true then (some x8) else (sl3_IndexFunc.l0 k x0 x7 (wrap64 (x8+1)) x47000 x48000))) else (none)) else (none)) else (some (-1))
def sl3_IndexFunc.f (k:Nat) (l0:List Int) (a1_0_0:Int) (a1_1_0:Int):Option (Int):=sl3_IndexFunc.l0 k l0 (l0.length:Int) 0 a1_0_0 a1_1_0
set_option maxHeartbeats 8000000 in
set_option maxRecDepth 100000 in
theorem sl3_IndexFunc.calls (k:Nat) (A0:Option Addr) (c0:Nat) (l0:List Int) (g1_0:Nat) (a1_0_0:Int) (g1_1:Nat) (a1_1_0:Int) (r:Int) (w:World) (hr0:Kd.C (Kd.int .i64) w A0 l0.length l0) (hc0:l0.length≤c0) (hg1_0:w.heap[g1_0]? = some (.cells #[.int .i64 a1_0_0] 3 (0,0))) (hg1_1:w.heap[g1_1]? = some (.cells #[.int .i64 a1_1_0] 3 (0,0))) (h:sl3_IndexFunc.f k l0 a1_0_0 a1_1_0=some r) :
    Calls Try.prog 235 #[.slice A0 l0.length c0,.func (.func 209) #[] #[.pointer (some ⟨g1_0,0,none⟩),.pointer (some ⟨g1_1,0,none⟩)]] w fun e w'=>e= .returned (.int .i64 r)∧Below w.heap.size w w':=by
  have HR0:=aM hr0;have HC0:=aM hc0;clear hr0 hc0;have BK46:=aM hg1_0;clear hg1_0;have BK47:=aM hg1_1;clear hg1_1;have HB:=aM (Below.refl w.heap.size w);have H:(sl3_IndexFunc.l0 k l0 (l0.length:Int) 0 a1_0_0 a1_1_0)=some r:=h;clear h;have H':=aM H;clear H;go_enter Try.func235,Try.ntmps235;go_wp2;go_loopg [8] k (fun kq v8 w'=>∃ (x8_1:Int),v8= .int .i64 x8_1∧Aside0 (sl3_IndexFunc.l0 kq l0 (l0.length:Int) x8_1 a1_0_0 a1_1_0=some r)∧Aside0 (kq≤k)∧Aside0 (w'.heap[g1_0]? = some (.cells #[.int .i64 a1_0_0] 3 (0,0)))∧Aside0 (w'.heap[g1_1]? = some (.cells #[.int .i64 a1_1_0] 3 (0,0)))∧Aside0 (Below w.heap.size w w'))
  case atStart=>exact ⟨(0),(by first|rfl|(simp;done)|(simp [*];done)),H',⟨Nat.le_refl _⟩,⟨by (with_reducible repeat (first|apply blk_drewN|apply blk_drew|apply blk_alloc));exact BK46.out⟩,⟨by (with_reducible repeat (first|apply blk_drewN|apply blk_drew|apply blk_alloc));exact BK47.out⟩,⟨by repeat (first|(with_reducible first|exact HB.out|apply Qb|apply Qa|apply Qc|refine Qg ?_ GE46.out|refine Qg ?_ GE47.out)|exact HB.out)⟩⟩
  case round=>
   clear H';(try clear p2);obtain ⟨x8_1,rfl,HA,HK1,BK46,BK47,HB⟩:=hrel
   cases gk with
   |zero=>exact absurd HA.out (by simp [sl3_IndexFunc.l0])
   |succ k1=>
    have H:=HA.out;clear HA;simp only [sl3_IndexFunc.l0] at H;by_cases c3:x8_1<(l0.length:Int)
    ·rw [if_pos c3] at H;have c3b0:decide (x8_1<(l0.length:Int))=true:=decide_eq_true c3;clear c3;by_cases c4:0≤x8_1
     ·rw [if_pos c4] at H;have c4b0:decide (0≤x8_1)=true:=decide_eq_true c4;clear c4;by_cases c5:x8_1<(l0.length:Int)
      ·rw [if_pos c5] at H;have c5b0:decide (x8_1<(l0.length:Int))=true:=decide_eq_true c5;clear c5;replace H:=Option.bind_eq_some_iff.mp H;obtain ⟨t102,A60,H⟩:=H;replace H:(if t102=true then (some x8_1) else (sl3_IndexFunc.l0 k1 l0 (l0.length:Int) (wrap64 (x8_1+1)) a1_0_0 a1_1_0))=some r:=H;have A6:=aM A60;clear A60;by_cases c7:t102=true
       ·subst c7;have H1:(some x8_1)=some r:=by rw [if_pos rfl] at H;exact H
        clear H;have H:=H1;clear H1;obtain rfl:=Option.some.inj H;have p101:0≤(x8_1:Int):=of_decide_eq_true (by first|(with_reducible assumption)|assumption);have q101:x8_1<(l0.length:Int):=of_decide_eq_true (by first|(with_reducible assumption)|assumption);obtain ⟨ad101,e101,hx101_0⟩:=Kd.at_int HR0.out x8_1 p101 q101
        cases e101
        replace hx101_0:=(HB.out.cell (aI w _ hx101_0)).trans hx101_0;replace p101:=eq_true p101;replace q101:=eq_true q101;go_wp2_with (first|(go_at_call 209;(with_reducible refine (impl_allWithin_1.calls (rd l0 x8_1) g1_0 a1_0_0 g1_1 a1_1_0 true _ ?side1 ?side2 A6.out).mono ?_);(case side1=>exact (by (with_reducible repeat (first|apply blk_drewN|apply blk_drew|apply blk_alloc));exact BK46.out));(case side2=>exact (by (with_reducible repeat (first|apply blk_drewN|apply blk_drew|apply blk_alloc));exact BK47.out));rintro e w' ⟨rfl,⟨nd,rfl⟩⟩))
        go_ret
        exact ⟨by first|rfl|(simp [errW_none,errW_some] <;> rfl)|(simp [*,errW_none,errW_some] <;> rfl),by repeat (first|(with_reducible first|exact HB.out|apply Qb|apply Qa|apply Qc|refine Qg ?_ GE46.out|refine Qg ?_ GE47.out)|exact HB.out)⟩
       ·replace c7:=Bool.eq_false_iff.mpr c7;subst c7;have H1:(sl3_IndexFunc.l0 k1 l0 (l0.length:Int) (wrap64 (x8_1+1)) a1_0_0 a1_1_0)=some r:=by rw [if_neg (show ¬ (false=true) by decide)] at H;exact H
        clear H;have H:=H1;clear H1;have H':=aM H;clear H;have p101:0≤(x8_1:Int):=of_decide_eq_true (by first|(with_reducible assumption)|assumption);have q101:x8_1<(l0.length:Int):=of_decide_eq_true (by first|(with_reducible assumption)|assumption);obtain ⟨ad101,e101,hx101_0⟩:=Kd.at_int HR0.out x8_1 p101 q101
        cases e101
        replace hx101_0:=(HB.out.cell (aI w _ hx101_0)).trans hx101_0;replace p101:=eq_true p101;replace q101:=eq_true q101;go_wp2_with (first|(go_at_call 209;(with_reducible refine (impl_allWithin_1.calls (rd l0 x8_1) g1_0 a1_0_0 g1_1 a1_1_0 false _ ?side1 ?side2 A6.out).mono ?_);(case side1=>exact (by (with_reducible repeat (first|apply blk_drewN|apply blk_drew|apply blk_alloc));exact BK46.out));(case side2=>exact (by (with_reducible repeat (first|apply blk_drewN|apply blk_drew|apply blk_alloc));exact BK47.out));rintro e w' ⟨rfl,⟨nd,rfl⟩⟩))
        go_roundg k1
        case measure=>have:=HK1.out;omega
        case rel=>exact ⟨(wrap64 (x8_1+1)),(by first|rfl|(simp;done)|(simp [*];done)),H',⟨by have:=HK1.out;omega⟩,⟨by (with_reducible repeat (first|apply blk_drewN|apply blk_drew|apply blk_alloc));exact BK46.out⟩,⟨by (with_reducible repeat (first|apply blk_drewN|apply blk_drew|apply blk_alloc));exact BK47.out⟩,⟨by repeat (first|(with_reducible first|exact HB.out|apply Qb|apply Qa|apply Qc|refine Qg ?_ GE46.out|refine Qg ?_ GE47.out)|exact HB.out)⟩⟩
      ·rw [if_neg c5] at H;exact absurd H (by simp)
     ·rw [if_neg c4] at H;exact absurd H (by simp)
    ·rw [if_neg c3] at H;have c3b0:decide (x8_1<(l0.length:Int))=false:=decide_eq_false c3;clear c3;obtain rfl:=Option.some.inj H;go_wp2
     go_ret
     exact ⟨by first|rfl|(simp [errW_none,errW_some] <;> rfl)|(simp [*,errW_none,errW_some] <;> rfl),by repeat (first|(with_reducible first|exact HB.out|apply Qb|apply Qa|apply Qc|refine Qg ?_ GE46.out|refine Qg ?_ GE47.out)|exact HB.out)⟩

def sl1_ContainsFunc.f (k:Nat) (l0:List Int) (a1_0_0:Int) (a1_1_0:Int):Option (Bool):=(sl3_IndexFunc.f k l0 a1_0_0 a1_1_0).bind fun t101=>(some (decide (t101 ≥ 0)))
set_option maxHeartbeats 8000000 in
set_option maxRecDepth 100000 in
theorem sl1_ContainsFunc.calls (k:Nat) (A0:Option Addr) (c0:Nat) (l0:List Int) (g1_0:Nat) (a1_0_0:Int) (g1_1:Nat) (a1_1_0:Int) (r:Bool) (w:World) (hr0:Kd.C (Kd.int .i64) w A0 l0.length l0) (hc0:l0.length≤c0) (hg1_0:w.heap[g1_0]? = some (.cells #[.int .i64 a1_0_0] 3 (0,0))) (hg1_1:w.heap[g1_1]? = some (.cells #[.int .i64 a1_1_0] 3 (0,0))) (h:sl1_ContainsFunc.f k l0 a1_0_0 a1_1_0=some r) :
    Calls Try.prog 208 #[.slice A0 l0.length c0,.func (.func 209) #[] #[.pointer (some ⟨g1_0,0,none⟩),.pointer (some ⟨g1_1,0,none⟩)]] w fun e w'=>e= .returned (.bool r)∧Below w.heap.size w w':=by
  have HR0:=aM hr0;have HC0:=aM hc0;clear hr0 hc0;have BK46:=aM hg1_0;clear hg1_0;have BK47:=aM hg1_1;clear hg1_1;have HB:=aM (Below.refl w.heap.size w);have H:((sl3_IndexFunc.f k l0 a1_0_0 a1_1_0).bind fun t101=>(some (decide (t101 ≥ 0))))=some r:=h;clear h;replace H:=Option.bind_eq_some_iff.mp H;obtain ⟨t101,A30,H⟩:=H;replace H:(some (decide (t101 ≥ 0)))=some r:=H;have A3:=aM A30;clear A30;obtain rfl:=Option.some.inj H;go_enter Try.func208,Try.ntmps208;go_wp2_with (first|((with_reducible refine Qh (f:=235) rfl ?_);refine goesL_ (some 7) rfl rfl Try.func235 (by kernel_rfl) rfl #[.slice A0 l0.length c0,.func (.func 209) #[] #[.pointer (some ⟨g1_0,0,none⟩),.pointer (some ⟨g1_1,0,none⟩)]] rfl (by (try simp only [aD,aE,aF]);first|done|rfl|(simp only [aG,aH];rfl)) ?_;(with_reducible refine (sl3_IndexFunc.calls k _ _ l0 g1_0 a1_0_0 g1_1 a1_1_0 t101 _ ?side1 ?side2 ?side3 ?side4 A3.out).mono ?_);(case side1=>repeat (first|exact HR0.out|(with_reducible refine Kd.Qj ?_ _)|(with_reducible refine Kd.Qk ?_ _)|(with_reducible refine Kd.C_drew ?_)));(case side2=>exact HC0.out);(case side3=>exact (by (with_reducible repeat (first|apply blk_drewN|apply blk_drew|apply blk_alloc));exact BK46.out));(case side4=>exact (by (with_reducible repeat (first|apply blk_drewN|apply blk_drew|apply blk_alloc));exact BK47.out));rintro e w4 ⟨rfl,hb⟩;refine ⟨_,rfl,?_⟩;have n0_:=aM (blk_below (g:=g1_0) (o:= .cells #[.int .i64 a1_0_0] 3 (0,0)) (by (with_reducible repeat (first|apply blk_drewN|apply blk_drew|apply blk_alloc));exact BK46.out) hb);have n1_:=aM (blk_below (g:=g1_1) (o:= .cells #[.int .i64 a1_1_0] 3 (0,0)) (by (with_reducible repeat (first|apply blk_drewN|apply blk_drew|apply blk_alloc));exact BK47.out) hb);have n2_:=aM (Qi (by repeat (first|(with_reducible first|exact HB.out|apply Qb|apply Qa|apply Qc|refine Qg ?_ GE46.out|refine Qg ?_ GE47.out)|exact HB.out)) hb);clear BK46;clear BK47;clear HB;have BK46:=n0_;have BK47:=n1_;have HB:=n2_;clear n0_ n1_ n2_;(try clear hb);(try clear hb2);(try clear hk);(try clear hi)))
  go_ret
  exact ⟨by first|rfl|(simp [errW_none,errW_some] <;> rfl)|(simp [*,errW_none,errW_some] <;> rfl),by repeat (first|(with_reducible first|exact HB.out|apply Qb|apply Qa|apply Qc|refine Qg ?_ GE46.out|refine Qg ?_ GE47.out)|exact HB.out)⟩

def impl_allWithin.f (k:Nat) (l0:List Int) (a1:Int) (a2:Int):Option (Bool):=(sl1_ContainsFunc.f k l0 a1 a2).bind fun t103=>(some (!t103))
set_option maxHeartbeats 8000000 in
set_option maxRecDepth 100000 in
theorem impl_allWithin.calls (k:Nat) (A0:Option Addr) (c0:Nat) (l0:List Int) (a1:Int) (a2:Int) (r:Bool) (w:World) (hr0:Kd.C (Kd.int .i64) w A0 l0.length l0) (hc0:l0.length≤c0) (h:impl_allWithin.f k l0 a1 a2=some r) :
    Calls Try.prog 123 #[.slice A0 l0.length c0,.int .i64 a1,.int .i64 a2] w fun e w'=>e= .returned (.bool r)∧Below w.heap.size w w':=by
  have hmf:∀ (fn:Fn) (first cap:Array Value) (w:World),(Instr.makeFunc fn first cap).run Try.prog w= .ok (.func fn first cap) w:=fun _ _ _ _=>rfl
  have HR0:=aM hr0;have HC0:=aM hc0;clear hr0 hc0;have HB:=aM (Below.refl w.heap.size w);have H:((sl1_ContainsFunc.f k l0 a1 a2).bind fun t103=>(some (!t103)))=some r:=h;clear h;replace H:=Option.bind_eq_some_iff.mp H;obtain ⟨t103,A40,H⟩:=H;replace H:(some (!t103))=some r:=H;have A4:=aM A40;clear A40;obtain rfl:=Option.some.inj H;go_enter Try.func123,Try.ntmps123;go_wp2_with (first|((with_reducible refine gate_dst (N:=4) rfl ?_);refine box_event ?hg (N:=4) ?hd (cs:=#[.int .i64 a1]) (t:=3) ?hr ?_;(case hd=>rfl);(case hg=>rfl);(case hr=>first|(go_simp;done)|(go_simp;rfl));intro gb101 hg w5 hbox hb;have n0_:=aM (Qi (by repeat (first|(with_reducible first|exact HB.out|apply Qb|apply Qa|apply Qc)|exact HB.out)) hb);have n1_:=aM (hbox);have n2_:=aM ((by rw [hg];exact (Ql (by repeat (first|(with_reducible first|exact HB.out|apply Qb|apply Qa|apply Qc)|exact HB.out))):w.heap.size≤gb101));have n3_:=aM ((by rw [hg];exact (Ql (by repeat (first|(with_reducible first|exact HB.out|apply Qb|apply Qa|apply Qc)|exact HB.out))):w.heap.size≤gb101));clear HB;have HB:=n0_;have BK101:=n1_;have GW101:=n2_;have GE101:=n3_;clear n0_ n1_ n2_ n3_;clear hb hbox hg)|((with_reducible refine gate_dst (N:=5) rfl ?_);refine box_event ?hg (N:=5) ?hd (cs:=#[.int .i64 a2]) (t:=3) ?hr ?_;(case hd=>rfl);(case hg=>rfl);(case hr=>first|(go_simp;done)|(go_simp;rfl));intro gb102 hg w6 hbox hb;have n0_:=aM (blk_below (g:=gb101) (o:= .cells #[.int .i64 a1] 3 (0,0)) (by (with_reducible repeat (first|apply blk_drewN|apply blk_drew|apply blk_alloc));exact BK101.out) hb);have n1_:=aM (Qi (by repeat (first|(with_reducible first|exact HB.out|apply Qb|apply Qa|apply Qc|refine Qg ?_ GE101.out)|exact HB.out)) hb);have n2_:=aM (hbox);have n3_:=aM ((by rw [hg];exact (Ql (by repeat (first|(with_reducible first|exact HB.out|apply Qb|apply Qa|apply Qc|refine Qg ?_ GE101.out)|exact HB.out))):w.heap.size≤gb102));have n4_:=aM ((by rw [hg];exact (Ql (by repeat (first|(with_reducible first|exact HB.out|apply Qb|apply Qa|apply Qc|refine Qg ?_ GE101.out)|exact HB.out))):w.heap.size≤gb102));have n5_:=aM ((by rw [hg];exact Nat.ne_of_lt (blk_lt (g:=gb101) (o:= .cells #[.int .i64 a1] 3 (0,0)) (by (with_reducible repeat (first|apply blk_drewN|apply blk_drew|apply blk_alloc));exact BK101.out)):gb101≠gb102));have n6_:=aM ((by rw [hg];exact Nat.ne_of_gt (blk_lt (g:=gb101) (o:= .cells #[.int .i64 a1] 3 (0,0)) (by (with_reducible repeat (first|apply blk_drewN|apply blk_drew|apply blk_alloc));exact BK101.out)):gb102≠gb101));clear BK101;clear HB;have BK101:=n0_;have HB:=n1_;have BK102:=n2_;have GW102:=n3_;have GE102:=n4_;have NB101_102:=n5_;have NB102_101:=n6_;clear n0_ n1_ n2_ n3_ n4_ n5_ n6_;clear hb hbox hg)|((with_reducible refine Qh (f:=208) rfl ?_);refine goesL_ (some 9) rfl rfl Try.func208 (by kernel_rfl) rfl #[.slice A0 l0.length c0,.func (.func 209) #[] #[.pointer (some ⟨gb101,0,none⟩),.pointer (some ⟨gb102,0,none⟩)]] rfl (by (try simp only [aD,aE,aF]);first|done|rfl|(simp only [aG,aH];rfl)) ?_;(with_reducible refine (sl1_ContainsFunc.calls k _ _ l0 gb101 a1 gb102 a2 t103 _ ?side1 ?side2 ?side3 ?side4 A4.out).mono ?_);(case side1=>repeat (first|exact (Kd.C_below HR0.out HB.out)|(with_reducible refine Kd.Qj ?_ _)|(with_reducible refine Kd.Qk ?_ _)|(with_reducible refine Kd.C_drew ?_)));(case side2=>exact HC0.out);(case side3=>exact (by (with_reducible repeat (first|apply blk_drewN|apply blk_drew|apply blk_alloc));exact BK101.out));(case side4=>exact (by (with_reducible repeat (first|apply blk_drewN|apply blk_drew|apply blk_alloc));exact BK102.out));rintro e w7 ⟨rfl,hb⟩;refine ⟨_,rfl,?_⟩;have n0_:=aM (blk_below (g:=gb101) (o:= .cells #[.int .i64 a1] 3 (0,0)) (by (with_reducible repeat (first|apply blk_drewN|apply blk_drew|apply blk_alloc));exact BK101.out) hb);have n1_:=aM (blk_below (g:=gb102) (o:= .cells #[.int .i64 a2] 3 (0,0)) (by (with_reducible repeat (first|apply blk_drewN|apply blk_drew|apply blk_alloc));exact BK102.out) hb);have n2_:=aM (Qi (by repeat (first|(with_reducible first|exact HB.out|apply Qb|apply Qa|apply Qc|refine Qg ?_ GE101.out|refine Qg ?_ GE102.out)|exact HB.out)) hb);clear BK101;clear BK102;clear HB;have BK101:=n0_;have BK102:=n1_;have HB:=n2_;clear n0_ n1_ n2_;(try clear hb);(try clear hb2);(try clear hk);(try clear hi)))
  go_ret
  exact ⟨by first|rfl|(simp [errW_none,errW_some] <;> rfl)|(simp [*,errW_none,errW_some] <;> rfl),by repeat (first|(with_reducible first|exact HB.out|apply Qb|apply Qa|apply Qc|refine Qg ?_ GE101.out|refine Qg ?_ GE102.out)|exact HB.out)⟩

mutual
def impl_CountIn.j0:Nat→List Int→Bool→Option (Int×Bool)
  |0,_,_=>none
  |k+1,x0,x14=>if x14=true then (some (0,false)) else (impl_CountIn.l0 k 0 x0 (x0.length:Int) 0)
def impl_CountIn.l0:Nat→Int→List Int→Int→Int→Option (Int×Bool)
  |0,_,_,_,_=>none
  |k+1,x4,x15,x16,x17=>if x17<x16 then (if 0≤x17 then (if x17<(x15.length:Int) then (if (rd x15 x17) ≥ 0 then (impl_CountIn.l0 k (wrap64 (x4+1)) x15 x16 (wrap64 (x17+1))) else (impl_CountIn.l0 k x4 x15 x16 (wrap64 (x17+1)))) else (none)) else (none)) else (some (x4,true))
end
def impl_CountIn.f (k:Nat) (l0:List Int):Option (Int×Bool):=if (l0.length:Int) > 8 then (impl_CountIn.j0 k l0 true) else ((impl_allWithin.f k l0 (-1) 7).bind fun t101=>(impl_CountIn.j0 k l0 (!t101)))
set_option maxHeartbeats 8000000 in
set_option maxRecDepth 100000 in
theorem impl_CountIn.calls (k:Nat) (A0:Option Addr) (c0:Nat) (l0:List Int) (r1:Int) (r2:Bool) (w:World) (hr0:Kd.C (Kd.int .i64) w A0 l0.length l0) (hc0:l0.length≤c0) (h:impl_CountIn.f k l0=some (r1,r2)) :
    Calls Try.prog 75 #[.slice A0 l0.length c0] w fun e w'=>e= .returned (.tuple #[.int .i64 r1,.bool r2])∧Below w.heap.size w w':=by
  have HR0:=aM hr0;have HC0:=aM hc0;clear hr0 hc0;have HB:=aM (Below.refl w.heap.size w);have H:(if (l0.length:Int) > 8 then (impl_CountIn.j0 k l0 true) else ((impl_allWithin.f k l0 (-1) 7).bind fun t101=>(impl_CountIn.j0 k l0 (!t101))))=some (r1,r2):=h;clear h;have HC2:=aM H;clear H;go_enter Try.func75,Try.ntmps75
  go_upto_region 1 with (fail)
  go_cut [14] (fun v14 wc=>∃ (kq:Nat) (x14_1:Bool),v14= .bool x14_1∧Aside0 (impl_CountIn.j0 kq l0 x14_1=some (r1,r2))∧Aside0 (kq≤k)∧Aside0 (Below w.heap.size w wc))
  case first=>
   have H:=HC2.out;clear HC2;by_cases c3:(l0.length:Int) > 8
   ·rw [if_pos c3] at H;have c3b0:decide (8<(l0.length:Int))=true:=decide_eq_true c3;have c3b1:decide (8<l0.length)=true:=decide_eq_true (by omega);clear c3
    (first|rw [c3b0]|(simp only [i64_w,i32_w];rw [c3b0])|skip)
    have H':=aM H;clear H;go_wp2
    go_meet
    case rel=>exact ⟨_,(true),(by first|rfl|(simp;done)|(simp [*];done)),H',⟨by first|omega|exact Nat.le_refl _⟩,⟨by repeat (first|(with_reducible first|exact HB.out|apply Qb|apply Qa|apply Qc)|exact HB.out)⟩⟩
   ·rw [if_neg c3] at H;have c3b0:decide (8<(l0.length:Int))=false:=decide_eq_false c3;have c3b1:decide (8<l0.length)=false:=decide_eq_false (by omega);clear c3
    (first|rw [c3b0]|(simp only [i64_w,i32_w];rw [c3b0])|skip)
    replace H:=Option.bind_eq_some_iff.mp H;obtain ⟨t101,A40,H⟩:=H;replace H:(impl_CountIn.j0 k l0 (!t101))=some (r1,r2):=H;have A4:=aM A40;clear A40;have H':=aM H;clear H;go_wp2_with (first|(go_at_call 123;(with_reducible refine (impl_allWithin.calls k _ _ l0 (-1) 7 t101 _ ?side1 ?side2 A4.out).mono ?_);(case side1=>repeat (first|exact (Kd.C_below HR0.out HB.out)|(with_reducible refine Kd.Qj ?_ _)|(with_reducible refine Kd.Qk ?_ _)|(with_reducible refine Kd.C_drew ?_)));(case side2=>exact HC0.out);rintro e w5 ⟨rfl,hb⟩;have n0_:=aM (Qi (by repeat (first|(with_reducible first|exact HB.out|apply Qb|apply Qa|apply Qc)|exact HB.out)) hb);clear HB;have HB:=n0_;clear n0_;(try clear hb);(try clear hb2);(try clear hk);(try clear hi)))
    go_meet
    case rel=>exact ⟨_,(!t101),(by first|rfl|(simp;done)|(simp [*];done)),H',⟨by first|omega|exact Nat.le_refl _⟩,⟨by repeat (first|(with_reducible first|exact HB.out|apply Qb|apply Qa|apply Qc)|exact HB.out)⟩⟩
  case rest=>
   clear HC2;(try clear p2);(try clear c3);(try clear c3b0);(try clear c3b1);obtain ⟨kq,x14_1,rfl,HA,HJ1,HB⟩:=hcut
   cases kq with
   |zero=>exact absurd HA.out (by simp [impl_CountIn.j0])
   |succ kj1=>
    have H:=HA.out;clear HA;simp only [impl_CountIn.j0] at H;by_cases c6:x14_1=true
    ·subst c6;have H1:(some (0,false))=some (r1,r2):=by rw [if_pos rfl] at H;exact H
     clear H;have H:=H1;clear H1;simp only [Option.some.injEq,Prod.mk.injEq] at H;obtain ⟨rfl,rfl⟩:=H;go_wp2
     go_ret2
     exact ⟨by first|rfl|(simp [errW_none,errW_some] <;> rfl)|(simp [*,errW_none,errW_some] <;> rfl),by repeat (first|(with_reducible first|exact HB.out|apply Qb|apply Qa|apply Qc)|exact HB.out)⟩
    ·replace c6:=Bool.eq_false_iff.mpr c6;subst c6;have H1:(impl_CountIn.l0 kj1 0 l0 (l0.length:Int) 0)=some (r1,r2):=by rw [if_neg (show ¬ (false=true) by decide)] at H;exact H
     clear H;have H:=H1;clear H1;have H':=aM H;clear H;go_wp2;go_loopg [4,17] kj1 (fun kq v4 v17 w'=>∃ (x4_2:Int) (x17_2:Int),v4= .int .i64 x4_2∧v17= .int .i64 x17_2∧Aside0 (impl_CountIn.l0 kq x4_2 l0 (l0.length:Int) x17_2=some (r1,r2))∧Aside0 (kq≤kj1)∧Aside0 (Below w.heap.size w w'))
     case atStart=>exact ⟨(0),(0),(by first|rfl|(simp;done)|(simp [*];done)),(by first|rfl|(simp;done)|(simp [*];done)),H',⟨Nat.le_refl _⟩,⟨by repeat (first|(with_reducible first|exact HB.out|apply Qb|apply Qa|apply Qc)|exact HB.out)⟩⟩
     case round=>
      clear H';(try clear p2);(try clear c3);(try clear c3b0);(try clear c3b1);(try clear c6);(try clear p2);obtain ⟨x4_2,x17_2,rfl,rfl,HA,HK2,HB⟩:=hrel
      cases gk with
      |zero=>exact absurd HA.out (by simp [impl_CountIn.l0])
      |succ k2=>
       have H:=HA.out;clear HA;simp only [impl_CountIn.l0] at H;by_cases c7:x17_2<(l0.length:Int)
       ·rw [if_pos c7] at H;have c7b0:decide (x17_2<(l0.length:Int))=true:=decide_eq_true c7;clear c7;by_cases c8:0≤x17_2
        ·rw [if_pos c8] at H;have c8b0:decide (0≤x17_2)=true:=decide_eq_true c8;clear c8;by_cases c9:x17_2<(l0.length:Int)
         ·rw [if_pos c9] at H;have c9b0:decide (x17_2<(l0.length:Int))=true:=decide_eq_true c9;clear c9;by_cases c10:(rd l0 x17_2) ≥ 0
          ·rw [if_pos c10] at H;have c10b0:decide (0≤(rd l0 x17_2))=true:=decide_eq_true c10;clear c10;have H':=aM H;clear H;have p102:0≤(x17_2:Int):=of_decide_eq_true (by first|(with_reducible assumption)|assumption);have q102:x17_2<(l0.length:Int):=of_decide_eq_true (by first|(with_reducible assumption)|assumption);obtain ⟨ad102,e102,hx102_0⟩:=Kd.at_int HR0.out x17_2 p102 q102
           cases e102
           replace hx102_0:=(HB.out.cell (aI w _ hx102_0)).trans hx102_0;replace p102:=eq_true p102;replace q102:=eq_true q102;go_wp2;go_roundg k2
           case measure=>have:=HJ1.out;have:=HK2.out;omega
           case rel=>exact ⟨(wrap64 (x4_2+1)),(wrap64 (x17_2+1)),(by first|rfl|(simp;done)|(simp [*];done)),(by first|rfl|(simp;done)|(simp [*];done)),H',⟨by have:=HJ1.out;have:=HK2.out;omega⟩,⟨by repeat (first|(with_reducible first|exact HB.out|apply Qb|apply Qa|apply Qc)|exact HB.out)⟩⟩
          ·rw [if_neg c10] at H;have c10b0:decide (0≤(rd l0 x17_2))=false:=decide_eq_false c10;clear c10;have H':=aM H;clear H;have p102:0≤(x17_2:Int):=of_decide_eq_true (by first|(with_reducible assumption)|assumption);have q102:x17_2<(l0.length:Int):=of_decide_eq_true (by first|(with_reducible assumption)|assumption);obtain ⟨ad102,e102,hx102_0⟩:=Kd.at_int HR0.out x17_2 p102 q102
           cases e102
           replace hx102_0:=(HB.out.cell (aI w _ hx102_0)).trans hx102_0;replace p102:=eq_true p102;replace q102:=eq_true q102;go_wp2;go_roundg k2
           case measure=>have:=HJ1.out;have:=HK2.out;omega
           case rel=>exact ⟨(x4_2),(wrap64 (x17_2+1)),(by first|rfl|(simp;done)|(simp [*];done)),(by first|rfl|(simp;done)|(simp [*];done)),H',⟨by have:=HJ1.out;have:=HK2.out;omega⟩,⟨by repeat (first|(with_reducible first|exact HB.out|apply Qb|apply Qa|apply Qc)|exact HB.out)⟩⟩
         ·rw [if_neg c9] at H;exact absurd H (by simp)
        ·rw [if_neg c8] at H;exact absurd H (by simp)
       ·rw [if_neg c7] at H;have c7b0:decide (x17_2<(l0.length:Int))=false:=decide_eq_false c7;clear c7;simp only [Option.some.injEq,Prod.mk.injEq] at H;obtain ⟨rfl,rfl⟩:=H;go_wp2
        go_ret2
        exact ⟨by first|rfl|(simp [errW_none,errW_some] <;> rfl)|(simp [*,errW_none,errW_some] <;> rfl),by repeat (first|(with_reducible first|exact HB.out|apply Qb|apply Qa|apply Qc)|exact HB.out)⟩

def impl_isRising.l0:Nat→List Int→Int→List Int→Int→Int→Option (Bool)
  |0,_,_,_,_,_=>none
  |k+1,x0,x1,x7,x8,x9=>if x9<x8 then (if 0≤x9 then (if x9<(x7.length:Int) then (if x9 > 0 then (if 0≤(wrap64 (x9 - 1)) then (if (wrap64 (x9 - 1))<(x0.length:Int) then (if (rd x0 (wrap64 (x9 - 1))) ≥ (rd x7 x9) then (some false) else (impl_isRising.l0 k x0 x1 x7 x8 (wrap64 (x9+1)))) else (none)) else (none)) else (impl_isRising.l0 k x0 x1 x7 x8 (wrap64 (x9+1)))) else (none)) else (none)) else ((impl_allWithin.f k x0 0 (wrap64 (x1 - 1))).bind fun t103=>(some t103))
def impl_isRising.f (k:Nat) (l0:List Int) (a1:Int):Option (Bool):=impl_isRising.l0 k l0 a1 l0 (l0.length:Int) 0
set_option maxHeartbeats 8000000 in
set_option maxRecDepth 100000 in
theorem impl_isRising.calls (k:Nat) (A0:Option Addr) (c0:Nat) (l0:List Int) (a1:Int) (r:Bool) (w:World) (hr0:Kd.C (Kd.int .i64) w A0 l0.length l0) (hc0:l0.length≤c0) (h:impl_isRising.f k l0 a1=some r) :
    Calls Try.prog 166 #[.slice A0 l0.length c0,.int .i64 a1] w fun e w'=>e= .returned (.bool r)∧Below w.heap.size w w':=by
  have HR0:=aM hr0;have HC0:=aM hc0;clear hr0 hc0;have HB:=aM (Below.refl w.heap.size w);have H:(impl_isRising.l0 k l0 a1 l0 (l0.length:Int) 0)=some r:=h;clear h;have H':=aM H;clear H;go_enter Try.func166,Try.ntmps166;go_wp2;go_loopg [9] k (fun kq v9 w'=>∃ (x9_1:Int),v9= .int .i64 x9_1∧Aside0 (impl_isRising.l0 kq l0 a1 l0 (l0.length:Int) x9_1=some r)∧Aside0 (kq≤k)∧Aside0 (Below w.heap.size w w'))
  case atStart=>exact ⟨(0),(by first|rfl|(simp;done)|(simp [*];done)),H',⟨Nat.le_refl _⟩,⟨by repeat (first|(with_reducible first|exact HB.out|apply Qb|apply Qa|apply Qc)|exact HB.out)⟩⟩
  case round=>
   clear H';(try clear c1);(try clear p2);obtain ⟨x9_1,rfl,HA,HK1,HB⟩:=hrel
   cases gk with
   |zero=>exact absurd HA.out (by simp [impl_isRising.l0])
   |succ k1=>
    have H:=HA.out;clear HA;simp only [impl_isRising.l0] at H;by_cases c3:x9_1<(l0.length:Int)
    ·rw [if_pos c3] at H;have c3b0:decide (x9_1<(l0.length:Int))=true:=decide_eq_true c3;clear c3;by_cases c4:0≤x9_1
     ·rw [if_pos c4] at H;have c4b0:decide (0≤x9_1)=true:=decide_eq_true c4;clear c4;by_cases c5:x9_1<(l0.length:Int)
      ·rw [if_pos c5] at H;have c5b0:decide (x9_1<(l0.length:Int))=true:=decide_eq_true c5;clear c5;by_cases c6:x9_1 > 0
       ·rw [if_pos c6] at H;have c6b0:decide (0<x9_1)=true:=decide_eq_true c6;clear c6;obtain ⟨ji7,hji7⟩:∃ j_:Int,(wrap64 (x9_1 - 1))=j_:=⟨_,rfl⟩;replace H:(if 0≤(ji7) then (if (ji7)<(l0.length:Int) then (if (rd l0 (ji7)) ≥ (rd l0 x9_1) then (some false) else (impl_isRising.l0 k1 l0 a1 l0 (l0.length:Int) (wrap64 (x9_1+1)))) else (none)) else (none))=some r:=by first|(rw [hji7] at H;exact H)|(simp only [hji7] at H ⊢;exact H)
        have hji7w:(IntKind.i64.wrap (x9_1 - 1))=ji7:=(i64_w _).trans hji7;by_cases c8:0≤(ji7)
        ·rw [if_pos c8] at H;have c8b0:decide (0≤(ji7))=true:=decide_eq_true c8;clear c8;by_cases c9:(ji7)<(l0.length:Int)
         ·rw [if_pos c9] at H;have c9b0:decide ((ji7)<(l0.length:Int))=true:=decide_eq_true c9;clear c9;by_cases c10:(rd l0 (ji7)) ≥ (rd l0 x9_1)
          ·rw [if_pos c10] at H;have c10b0:decide ((rd l0 x9_1)≤(rd l0 (ji7)))=true:=decide_eq_true c10;clear c10;obtain rfl:=Option.some.inj H;have p101:0≤(x9_1:Int):=of_decide_eq_true (by first|(with_reducible assumption)|assumption);have q101:x9_1<(l0.length:Int):=of_decide_eq_true (by first|(with_reducible assumption)|assumption);obtain ⟨ad101,e101,hx101_0⟩:=Kd.at_int HR0.out x9_1 p101 q101
           cases e101
           replace hx101_0:=(HB.out.cell (aI w _ hx101_0)).trans hx101_0;replace p101:=eq_true p101;replace q101:=eq_true q101;have p102:0≤((ji7):Int):=of_decide_eq_true (by first|(with_reducible assumption)|assumption);have q102:(ji7)<(l0.length:Int):=of_decide_eq_true (by first|(with_reducible assumption)|assumption);obtain ⟨ad102,e102,hx102_0⟩:=Kd.at_int HR0.out (ji7) p102 q102;obtain rfl:ad101=ad102:=(by injection e102);replace hx102_0:=(HB.out.cell (aI w _ hx102_0)).trans hx102_0;replace p102:=eq_true p102;replace q102:=eq_true q102;go_wp2
           go_ret
           exact ⟨by first|rfl|(simp [errW_none,errW_some] <;> rfl)|(simp only [←hji7];first|rfl|(simp [errW_none,errW_some] <;> rfl))|(simp [*,errW_none,errW_some] <;> rfl),by repeat (first|(with_reducible first|exact HB.out|apply Qb|apply Qa|apply Qc)|exact HB.out)⟩
          ·rw [if_neg c10] at H;have c10b0:decide ((rd l0 x9_1)≤(rd l0 (ji7)))=false:=decide_eq_false c10;clear c10;have H':=aM H;clear H;have p101:0≤(x9_1:Int):=of_decide_eq_true (by first|(with_reducible assumption)|assumption);have q101:x9_1<(l0.length:Int):=of_decide_eq_true (by first|(with_reducible assumption)|assumption);obtain ⟨ad101,e101,hx101_0⟩:=Kd.at_int HR0.out x9_1 p101 q101
           cases e101
           replace hx101_0:=(HB.out.cell (aI w _ hx101_0)).trans hx101_0;replace p101:=eq_true p101;replace q101:=eq_true q101;have p102:0≤((ji7):Int):=of_decide_eq_true (by first|(with_reducible assumption)|assumption);have q102:(ji7)<(l0.length:Int):=of_decide_eq_true (by first|(with_reducible assumption)|assumption);obtain ⟨ad102,e102,hx102_0⟩:=Kd.at_int HR0.out (ji7) p102 q102;obtain rfl:ad101=ad102:=(by injection e102);replace hx102_0:=(HB.out.cell (aI w _ hx102_0)).trans hx102_0;replace p102:=eq_true p102;replace q102:=eq_true q102;go_wp2;go_roundg k1
           case measure=>have:=HK1.out;omega
           case rel=>exact ⟨(wrap64 (x9_1+1)),(by first|rfl|(simp;done)|(simp [*];done)),H',⟨by have:=HK1.out;omega⟩,⟨by repeat (first|(with_reducible first|exact HB.out|apply Qb|apply Qa|apply Qc)|exact HB.out)⟩⟩
         ·rw [if_neg c9] at H;exact absurd H (by simp)
        ·rw [if_neg c8] at H;exact absurd H (by simp)
       ·rw [if_neg c6] at H;have c6b0:decide (0<x9_1)=false:=decide_eq_false c6;clear c6;have H':=aM H;clear H;have p101:0≤(x9_1:Int):=of_decide_eq_true (by first|(with_reducible assumption)|assumption);have q101:x9_1<(l0.length:Int):=of_decide_eq_true (by first|(with_reducible assumption)|assumption);obtain ⟨ad101,e101,hx101_0⟩:=Kd.at_int HR0.out x9_1 p101 q101
        cases e101
        replace hx101_0:=(HB.out.cell (aI w _ hx101_0)).trans hx101_0;replace p101:=eq_true p101;replace q101:=eq_true q101;go_wp2;go_roundg k1
        case measure=>have:=HK1.out;omega
        case rel=>exact ⟨(wrap64 (x9_1+1)),(by first|rfl|(simp;done)|(simp [*];done)),H',⟨by have:=HK1.out;omega⟩,⟨by repeat (first|(with_reducible first|exact HB.out|apply Qb|apply Qa|apply Qc)|exact HB.out)⟩⟩
      ·rw [if_neg c5] at H;exact absurd H (by simp)
     ·rw [if_neg c4] at H;exact absurd H (by simp)
    ·rw [if_neg c3] at H;have c3b0:decide (x9_1<(l0.length:Int))=false:=decide_eq_false c3;clear c3;replace H:=Option.bind_eq_some_iff.mp H;obtain ⟨t103,A110,H⟩:=H;replace H:(some t103)=some r:=H;have A11:=aM A110;clear A110;obtain rfl:=Option.some.inj H;go_wp2_with (first|((with_reducible refine Qh (f:=123) rfl ?_);refine goesL_ (some 29) rfl rfl Try.func123 (by kernel_rfl) rfl #[.slice A0 l0.length c0,.int .i64 0,.int .i64 (wrap64 (a1 - 1))] rfl (by (try simp only [aD,aE,aF]);first|done|rfl|(simp only [aG,aH];rfl)) ?_;(with_reducible refine (impl_allWithin.calls k1 _ _ l0 0 (wrap64 (a1 - 1)) t103 _ ?side1 ?side2 A11.out).mono ?_);(case side1=>repeat (first|exact (Kd.C_below HR0.out HB.out)|(with_reducible refine Kd.Qj ?_ _)|(with_reducible refine Kd.Qk ?_ _)|(with_reducible refine Kd.C_drew ?_)));(case side2=>exact HC0.out);rintro e w12 ⟨rfl,hb⟩;refine ⟨_,rfl,?_⟩;have n0_:=aM (Qi (by repeat (first|(with_reducible first|exact HB.out|apply Qb|apply Qa|apply Qc)|exact HB.out)) hb);clear HB;have HB:=n0_;clear n0_;(try clear hb);(try clear hb2);(try clear hk);(try clear hi)))
     go_ret
     exact ⟨by first|rfl|(simp [errW_none,errW_some] <;> rfl)|(simp [*,errW_none,errW_some] <;> rfl),by repeat (first|(with_reducible first|exact HB.out|apply Qb|apply Qa|apply Qc)|exact HB.out)⟩

def slices_Index_int_int.l0:Nat→List Int→Int→Int→Int→Option (Int)
  |0,_,_,_,_=>none
  |k+1,x0,x1,x7,x8=>if x8<x7 then (if 0≤x8 then (if x8<(x0.length:Int) then (if x1=(rd x0 x8) then (some x8) else (slices_Index_int_int.l0 k x0 x1 x7 (wrap64 (x8+1)))) else (none)) else (none)) else (some (-1))
def slices_Index_int_int.f (k:Nat) (l0:List Int) (a1:Int):Option (Int):=slices_Index_int_int.l0 k l0 a1 (l0.length:Int) 0
set_option maxHeartbeats 8000000 in
set_option maxRecDepth 100000 in
theorem slices_Index_int_int.calls (k:Nat) (A0:Option Addr) (c0:Nat) (l0:List Int) (a1:Int) (r:Int) (w:World) (hr0:Kd.C (Kd.int .i64) w A0 l0.length l0) (hc0:l0.length≤c0) (h:slices_Index_int_int.f k l0 a1=some r) :
    Calls Try.prog 223 #[.slice A0 l0.length c0,.int .i64 a1] w fun e w'=>e= .returned (.int .i64 r)∧Drawn0 w w':=by
  have HR0:=aM hr0;have HC0:=aM hc0;clear hr0 hc0;have H:(slices_Index_int_int.l0 k l0 a1 (l0.length:Int) 0)=some r:=h;clear h;have H':=aM H;clear H;go_enter Try.func223,Try.ntmps223;go_wp2;go_loopg [8] k (fun kq v8 w'=>∃ (x8_1:Int),v8= .int .i64 x8_1∧Aside0 (slices_Index_int_int.l0 kq l0 a1 (l0.length:Int) x8_1=some r)∧Aside0 (kq≤k)∧Drawn0 w w')
  case atStart=>exact ⟨(0),(by first|rfl|(simp;done)|(simp [*];done)),H',⟨Nat.le_refl _⟩,by repeat (first|exact Drawn0.refl _|apply Drawn0.step)⟩
  case round=>
   clear H';(try clear c2);(try clear p2);obtain ⟨x8_1,rfl,HA,HK1,⟨m1,rfl⟩⟩:=hrel
   cases gk with
   |zero=>exact absurd HA.out (by simp [slices_Index_int_int.l0])
   |succ k1=>
    have H:=HA.out;clear HA;simp only [slices_Index_int_int.l0] at H;by_cases c3:x8_1<(l0.length:Int)
    ·rw [if_pos c3] at H;have c3b0:decide (x8_1<(l0.length:Int))=true:=decide_eq_true c3;clear c3;by_cases c4:0≤x8_1
     ·rw [if_pos c4] at H;have c4b0:decide (0≤x8_1)=true:=decide_eq_true c4;clear c4;by_cases c5:x8_1<(l0.length:Int)
      ·rw [if_pos c5] at H;have c5b0:decide (x8_1<(l0.length:Int))=true:=decide_eq_true c5;clear c5;by_cases c6:a1=(rd l0 x8_1)
       ·rw [if_pos c6] at H;have c6b0:(a1 == (rd l0 x8_1))=true:=beq_iff_eq.mpr c6;have c6b1:(a1 != (rd l0 x8_1))=false:=bne_eq_false_iff_eq.mpr c6;clear c6;obtain rfl:=Option.some.inj H;have p101:0≤(x8_1:Int):=of_decide_eq_true (by first|(with_reducible assumption)|assumption);have q101:x8_1<(l0.length:Int):=of_decide_eq_true (by first|(with_reducible assumption)|assumption);obtain ⟨ad101,e101,hx101_0⟩:=Kd.at_int HR0.out x8_1 p101 q101
        cases e101
        replace p101:=eq_true p101;replace q101:=eq_true q101;go_wp2
        go_ret
        exact ⟨by first|rfl|(simp;done)|(simp [*];done),by repeat (first|exact Drawn0.refl _|apply Drawn0.step)⟩
       ·rw [if_neg c6] at H;have c6b0:(a1 == (rd l0 x8_1))=false:=beq_eq_false_iff_ne.mpr c6;have c6b1:(a1 != (rd l0 x8_1))=true:=bne_iff_ne.mpr c6;have H':=aM H;clear H;have p101:0≤(x8_1:Int):=of_decide_eq_true (by first|(with_reducible assumption)|assumption);have q101:x8_1<(l0.length:Int):=of_decide_eq_true (by first|(with_reducible assumption)|assumption);obtain ⟨ad101,e101,hx101_0⟩:=Kd.at_int HR0.out x8_1 p101 q101
        cases e101
        replace p101:=eq_true p101;replace q101:=eq_true q101;go_wp2;go_roundg k1
        case measure=>have:=HK1.out;omega
        case rel=>exact ⟨(wrap64 (x8_1+1)),(by first|rfl|(simp;done)|(simp [*];done)),H',⟨by have:=HK1.out;omega⟩,by repeat (first|exact Drawn0.refl _|apply Drawn0.step)⟩
      ·rw [if_neg c5] at H;exact absurd H (by simp)
     ·rw [if_neg c4] at H;exact absurd H (by simp)
    ·rw [if_neg c3] at H;have c3b0:decide (x8_1<(l0.length:Int))=false:=decide_eq_false c3;clear c3;obtain rfl:=Option.some.inj H;go_wp2
     go_ret
     exact ⟨by first|rfl|(simp;done)|(simp [*];done),by repeat (first|exact Drawn0.refl _|apply Drawn0.step)⟩

def slices_Contains_int_int.f (k:Nat) (l0:List Int) (a1:Int):Option (Bool):=(slices_Index_int_int.f k l0 a1).bind fun t101=>(some (decide (t101 ≥ 0)))
set_option maxHeartbeats 8000000 in
set_option maxRecDepth 100000 in
theorem slices_Contains_int_int.calls (k:Nat) (A0:Option Addr) (c0:Nat) (l0:List Int) (a1:Int) (r:Bool) (w:World) (hr0:Kd.C (Kd.int .i64) w A0 l0.length l0) (hc0:l0.length≤c0) (h:slices_Contains_int_int.f k l0 a1=some r) :
    Calls Try.prog 168 #[.slice A0 l0.length c0,.int .i64 a1] w fun e w'=>e= .returned (.bool r)∧Drawn0 w w':=by
  have HR0:=aM hr0;have HC0:=aM hc0;clear hr0 hc0;have H:((slices_Index_int_int.f k l0 a1).bind fun t101=>(some (decide (t101 ≥ 0))))=some r:=h;clear h;replace H:=Option.bind_eq_some_iff.mp H;obtain ⟨t101,A30,H⟩:=H;replace H:(some (decide (t101 ≥ 0)))=some r:=H;have A3:=aM A30;clear A30;obtain rfl:=Option.some.inj H;go_enter Try.func168,Try.ntmps168;go_wp2_with (first|((with_reducible refine Qh (f:=223) rfl ?_);refine goesL_ (some 7) rfl rfl Try.func223 (by kernel_rfl) rfl #[.slice A0 l0.length c0,.int .i64 a1] rfl (by (try simp only [aD,aE,aF]);first|done|rfl|(simp only [aG,aH];rfl)) ?_;(with_reducible refine (slices_Index_int_int.calls k _ _ l0 a1 t101 _ ?side1 ?side2 A3.out).mono ?_);(case side1=>repeat (first|exact HR0.out|(with_reducible refine Kd.Qj ?_ _)|(with_reducible refine Kd.Qk ?_ _)|(with_reducible refine Kd.C_drew ?_)));(case side2=>exact HC0.out);rintro e w' ⟨rfl,⟨nd,rfl⟩⟩;refine ⟨_,rfl,?_⟩))
  go_ret
  exact ⟨by first|rfl|(simp;done)|(simp [*];done),by repeat (first|exact Drawn0.refl _|apply Drawn0.step)⟩

mutual
def impl_IsCover.j0:Nat→List (List Bool)→List Int→List Int→Bool→Option (Bool×Bool)
  |0,_,_,_,_=>none
  |k+1,x0,x1,x2,x28=>if x28=true then (some (false,false)) else (impl_IsCover.l0 k x1 x2 x0 (x0.length:Int) 0)
def impl_IsCover.l0:Nat→List Int→List Int→List (List Bool)→Int→Int→Option (Bool×Bool)
  |0,_,_,_,_,_=>none
  |k+1,x1,x2,x29,x30,x31=>if x31<x30 then (if 0≤x31 then (if x31<(x29.length:Int) then (impl_IsCover.l1 k x1 x2 x31 x29 x30 x31 (rd_L7 x29 x31) ((rd_L7 x29 x31).length:Int) 0) else (none)) else (none)) else (some (true,true))
def impl_IsCover.l1:Nat→List Int→List Int→Int→List (List Bool)→Int→Int→List Bool→Int→Int→Option (Bool×Bool)
  |0,_,_,_,_,_,_,_,_,_=>none
  |k+1,x1,x2,x8,x29,x30,x31,x36,x37,x38=>if x38<x37 then (if 0≤x38 then (if x38<(x36.length:Int) then (if rdOf false x36 x38=true then ((slices_Contains_int_int.f k x1 x8).bind fun t107=>(if t107=true then (impl_IsCover.l1 k x1 x2 x8 x29 x30 x31 x36 x37 (wrap64 (x38+1))) else ((slices_Contains_int_int.f k x2 x38).bind fun t108=>(if t108=true then (impl_IsCover.l1 k x1 x2 x8 x29 x30 x31 x36 x37 (wrap64 (x38+1))) else (some (false,true)))))) else (impl_IsCover.l1 k x1 x2 x8 x29 x30 x31 x36 x37 (wrap64 (x38+1)))) else (none)) else (none)) else (impl_IsCover.l0 k x1 x2 x29 x30 (wrap64 (x31+1)))
end
def impl_IsCover.f (k:Nat) (l0:List (List Bool)) (l1:List Int) (l2:List Int):Option (Bool×Bool):=(impl_GoodFits.f k l0).bind fun t101=>(if t101=true then ((impl_isRising.f k l1 (l0.length:Int)).bind fun t102=>(if t102=true then ((impl_binsOf.f l0).bind fun t103=>((impl_isRising.f k l2 t103).bind fun t104=>(impl_IsCover.j0 k l0 l1 l2 (!t104)))) else (impl_IsCover.j0 k l0 l1 l2 true))) else (impl_IsCover.j0 k l0 l1 l2 true))
set_option maxHeartbeats 8000000 in
set_option maxRecDepth 100000 in
theorem impl_IsCover.calls (k:Nat) (A0:Option Addr) (c0:Nat) (l0:List (List Bool)) (A1:Option Addr) (c1:Nat) (l1:List Int) (A2:Option Addr) (c2:Nat) (l2:List Int) (r1:Bool) (r2:Bool) (w:World) (hr0:Kd.C (Kd.slice 4 Kd.bool) w A0 l0.length l0) (hc0:l0.length≤c0) (hr1:Kd.C (Kd.int .i64) w A1 l1.length l1) (hc1:l1.length≤c1) (hr2:Kd.C (Kd.int .i64) w A2 l2.length l2) (hc2:l2.length≤c2) (h:impl_IsCover.f k l0 l1 l2=some (r1,r2)) :
    Calls Try.prog 76 #[.slice A0 l0.length c0,.slice A1 l1.length c1,.slice A2 l2.length c2] w fun e w'=>e= .returned (.tuple #[.bool r1,.bool r2])∧Below w.heap.size w w':=by
  have HR0:=aM hr0;have HC0:=aM hc0;clear hr0 hc0;have HR1:=aM hr1;have HC1:=aM hc1;clear hr1 hc1;have HR2:=aM hr2;have HC2:=aM hc2;clear hr2 hc2;have HB:=aM (Below.refl w.heap.size w);have H:((impl_GoodFits.f k l0).bind fun t101=>(if t101=true then ((impl_isRising.f k l1 (l0.length:Int)).bind fun t102=>(if t102=true then ((impl_binsOf.f l0).bind fun t103=>((impl_isRising.f k l2 t103).bind fun t104=>(impl_IsCover.j0 k l0 l1 l2 (!t104)))) else (impl_IsCover.j0 k l0 l1 l2 true))) else (impl_IsCover.j0 k l0 l1 l2 true)))=some (r1,r2):=h;clear h;have HC4:=aM H;clear H;go_enter Try.func76,Try.ntmps76
  go_upto_region 1 with (fail)
  go_cut [28] (fun v28 wc=>∃ (kq:Nat) (x28_3:Bool),v28= .bool x28_3∧Aside0 (impl_IsCover.j0 kq l0 l1 l2 x28_3=some (r1,r2))∧Aside0 (kq≤k)∧Aside0 (Below w.heap.size w wc))
  case first=>
   have H:=HC4.out;clear HC4;replace H:=Option.bind_eq_some_iff.mp H;obtain ⟨t101,A50,H⟩:=H;replace H:(if t101=true then ((impl_isRising.f k l1 (l0.length:Int)).bind fun t102=>(if t102=true then ((impl_binsOf.f l0).bind fun t103=>((impl_isRising.f k l2 t103).bind fun t104=>(impl_IsCover.j0 k l0 l1 l2 (!t104)))) else (impl_IsCover.j0 k l0 l1 l2 true))) else (impl_IsCover.j0 k l0 l1 l2 true))=some (r1,r2):=H;have A5:=aM A50;clear A50;by_cases c6:t101=true
   ·subst c6;have H1:((impl_isRising.f k l1 (l0.length:Int)).bind fun t102=>(if t102=true then ((impl_binsOf.f l0).bind fun t103=>((impl_isRising.f k l2 t103).bind fun t104=>(impl_IsCover.j0 k l0 l1 l2 (!t104)))) else (impl_IsCover.j0 k l0 l1 l2 true)))=some (r1,r2):=by rw [if_pos rfl] at H;exact H
    clear H;have H:=H1;clear H1;replace H:=Option.bind_eq_some_iff.mp H;obtain ⟨t102,A70,H⟩:=H;replace H:(if t102=true then ((impl_binsOf.f l0).bind fun t103=>((impl_isRising.f k l2 t103).bind fun t104=>(impl_IsCover.j0 k l0 l1 l2 (!t104)))) else (impl_IsCover.j0 k l0 l1 l2 true))=some (r1,r2):=H;have A7:=aM A70;clear A70;by_cases c8:t102=true
    ·subst c8;have H1:((impl_binsOf.f l0).bind fun t103=>((impl_isRising.f k l2 t103).bind fun t104=>(impl_IsCover.j0 k l0 l1 l2 (!t104))))=some (r1,r2):=by rw [if_pos rfl] at H;exact H
     clear H;have H:=H1;clear H1;replace H:=Option.bind_eq_some_iff.mp H;obtain ⟨t103,A90,H⟩:=H;replace H:((impl_isRising.f k l2 t103).bind fun t104=>(impl_IsCover.j0 k l0 l1 l2 (!t104)))=some (r1,r2):=H;have A9:=aM A90;clear A90;replace H:=Option.bind_eq_some_iff.mp H;obtain ⟨t104,A100,H⟩:=H;replace H:(impl_IsCover.j0 k l0 l1 l2 (!t104))=some (r1,r2):=H;have A10:=aM A100;clear A100;have H':=aM H;clear H;go_wp2_with (first|((with_reducible refine Qh (f:=80) rfl ?_);refine goesL_ (some 13) rfl rfl Try.func80 (by kernel_rfl) rfl #[.slice A0 l0.length c0] rfl (by (try simp only [aD,aE,aF]);first|done|rfl|(simp only [aG,aH];rfl)) ?_;(with_reducible refine (impl_GoodFits.calls k _ _ l0 true _ ?side1 ?side2 A5.out).mono ?_);(case side1=>repeat (first|exact (Kd.C_below HR0.out HB.out)|(with_reducible refine Kd.Qj ?_ _)|(with_reducible refine Kd.Qk ?_ _)|(with_reducible refine Kd.C_drew ?_)));(case side2=>exact HC0.out);rintro e w11 ⟨rfl,hb⟩;refine ⟨_,rfl,?_⟩;have n0_:=aM (Qi (by repeat (first|(with_reducible first|exact HB.out|apply Qb|apply Qa|apply Qc)|exact HB.out)) hb);clear HB;have HB:=n0_;clear n0_;(try clear hb);(try clear hb2);(try clear hk);(try clear hi))|(go_at_call 166;(with_reducible refine (impl_isRising.calls k _ _ l1 (l0.length:Int) true _ ?side1 ?side2 A7.out).mono ?_);(case side1=>repeat (first|exact (Kd.C_below HR1.out HB.out)|(with_reducible refine Kd.Qj ?_ _)|(with_reducible refine Kd.Qk ?_ _)|(with_reducible refine Kd.C_drew ?_)));(case side2=>exact HC1.out);rintro e w12 ⟨rfl,hb⟩;have n0_:=aM (Qi (by repeat (first|(with_reducible first|exact HB.out|apply Qb|apply Qa|apply Qc)|exact HB.out)) hb);clear HB;have HB:=n0_;clear n0_;(try clear hb);(try clear hb2);(try clear hk);(try clear hi))|(go_at_call 167;(with_reducible refine (impl_binsOf.calls _ _ l0 t103 _ ?side1 ?side2 A9.out).mono ?_);(case side1=>repeat (first|exact (Kd.C_below HR0.out HB.out)|(with_reducible refine Kd.Qj ?_ _)|(with_reducible refine Kd.Qk ?_ _)|(with_reducible refine Kd.C_drew ?_)));(case side2=>exact HC0.out);rintro e w' ⟨rfl,⟨nd,rfl⟩⟩)|(go_at_call 166;(with_reducible refine (impl_isRising.calls k _ _ l2 t103 t104 _ ?side1 ?side2 A10.out).mono ?_);(case side1=>repeat (first|exact (Kd.C_below HR2.out (by repeat (first|(with_reducible first|exact HB.out|apply Qb|apply Qa|apply Qc)|exact HB.out)))|(with_reducible refine Kd.Qj ?_ _)|(with_reducible refine Kd.Qk ?_ _)|(with_reducible refine Kd.C_drew ?_)));(case side2=>exact HC2.out);rintro e w13 ⟨rfl,hb⟩;have n0_:=aM (Qi (by repeat (first|(with_reducible first|exact HB.out|apply Qb|apply Qa|apply Qc)|exact HB.out)) hb);clear HB;have HB:=n0_;clear n0_;(try clear hb);(try clear hb2);(try clear hk);(try clear hi)))
     go_meet
     case rel=>exact ⟨_,(!t104),(by first|rfl|(simp;done)|(simp [*];done)),H',⟨by first|omega|exact Nat.le_refl _⟩,⟨by repeat (first|(with_reducible first|exact HB.out|apply Qb|apply Qa|apply Qc)|exact HB.out)⟩⟩
    ·replace c8:=Bool.eq_false_iff.mpr c8;subst c8;have H1:(impl_IsCover.j0 k l0 l1 l2 true)=some (r1,r2):=by rw [if_neg (show ¬ (false=true) by decide)] at H;exact H
     clear H;have H:=H1;clear H1;have H':=aM H;clear H;go_wp2_with (first|((with_reducible refine Qh (f:=80) rfl ?_);refine goesL_ (some 13) rfl rfl Try.func80 (by kernel_rfl) rfl #[.slice A0 l0.length c0] rfl (by (try simp only [aD,aE,aF]);first|done|rfl|(simp only [aG,aH];rfl)) ?_;(with_reducible refine (impl_GoodFits.calls k _ _ l0 true _ ?side1 ?side2 A5.out).mono ?_);(case side1=>repeat (first|exact (Kd.C_below HR0.out HB.out)|(with_reducible refine Kd.Qj ?_ _)|(with_reducible refine Kd.Qk ?_ _)|(with_reducible refine Kd.C_drew ?_)));(case side2=>exact HC0.out);rintro e w14 ⟨rfl,hb⟩;refine ⟨_,rfl,?_⟩;have n0_:=aM (Qi (by repeat (first|(with_reducible first|exact HB.out|apply Qb|apply Qa|apply Qc)|exact HB.out)) hb);clear HB;have HB:=n0_;clear n0_;(try clear hb);(try clear hb2);(try clear hk);(try clear hi))|(go_at_call 166;(with_reducible refine (impl_isRising.calls k _ _ l1 (l0.length:Int) false _ ?side1 ?side2 A7.out).mono ?_);(case side1=>repeat (first|exact (Kd.C_below HR1.out HB.out)|(with_reducible refine Kd.Qj ?_ _)|(with_reducible refine Kd.Qk ?_ _)|(with_reducible refine Kd.C_drew ?_)));(case side2=>exact HC1.out);rintro e w15 ⟨rfl,hb⟩;have n0_:=aM (Qi (by repeat (first|(with_reducible first|exact HB.out|apply Qb|apply Qa|apply Qc)|exact HB.out)) hb);clear HB;have HB:=n0_;clear n0_;(try clear hb);(try clear hb2);(try clear hk);(try clear hi)))
     go_meet
     case rel=>exact ⟨_,(true),(by first|rfl|(simp;done)|(simp [*];done)),H',⟨by first|omega|exact Nat.le_refl _⟩,⟨by repeat (first|(with_reducible first|exact HB.out|apply Qb|apply Qa|apply Qc)|exact HB.out)⟩⟩
   ·replace c6:=Bool.eq_false_iff.mpr c6;subst c6;have H1:(impl_IsCover.j0 k l0 l1 l2 true)=some (r1,r2):=by rw [if_neg (show ¬ (false=true) by decide)] at H;exact H
    clear H;have H:=H1;clear H1;have H':=aM H;clear H;go_wp2_with (first|((with_reducible refine Qh (f:=80) rfl ?_);refine goesL_ (some 13) rfl rfl Try.func80 (by kernel_rfl) rfl #[.slice A0 l0.length c0] rfl (by (try simp only [aD,aE,aF]);first|done|rfl|(simp only [aG,aH];rfl)) ?_;(with_reducible refine (impl_GoodFits.calls k _ _ l0 false _ ?side1 ?side2 A5.out).mono ?_);(case side1=>repeat (first|exact (Kd.C_below HR0.out HB.out)|(with_reducible refine Kd.Qj ?_ _)|(with_reducible refine Kd.Qk ?_ _)|(with_reducible refine Kd.C_drew ?_)));(case side2=>exact HC0.out);rintro e w16 ⟨rfl,hb⟩;refine ⟨_,rfl,?_⟩;have n0_:=aM (Qi (by repeat (first|(with_reducible first|exact HB.out|apply Qb|apply Qa|apply Qc)|exact HB.out)) hb);clear HB;have HB:=n0_;clear n0_;(try clear hb);(try clear hb2);(try clear hk);(try clear hi)))
    go_meet
    case rel=>exact ⟨_,(true),(by first|rfl|(simp;done)|(simp [*];done)),H',⟨by first|omega|exact Nat.le_refl _⟩,⟨by repeat (first|(with_reducible first|exact HB.out|apply Qb|apply Qa|apply Qc)|exact HB.out)⟩⟩
  case rest=>
   clear HC4;(try clear c1);(try clear c2);(try clear p2);(try clear c6);(try clear c7);(try clear c8);obtain ⟨kq,x28_3,rfl,HA,HJ3,HB⟩:=hcut
   cases kq with
   |zero=>exact absurd HA.out (by simp [impl_IsCover.j0])
   |succ kj3=>
    have H:=HA.out;clear HA;simp only [impl_IsCover.j0] at H;by_cases c17:x28_3=true
    ·subst c17;have H1:(some (false,false))=some (r1,r2):=by rw [if_pos rfl] at H;exact H
     clear H;have H:=H1;clear H1;simp only [Option.some.injEq,Prod.mk.injEq] at H;obtain ⟨rfl,rfl⟩:=H;go_wp2
     go_ret2
     exact ⟨by first|rfl|(simp [errW_none,errW_some] <;> rfl)|(simp [*,errW_none,errW_some] <;> rfl),by repeat (first|(with_reducible first|exact HB.out|apply Qb|apply Qa|apply Qc)|exact HB.out)⟩
    ·replace c17:=Bool.eq_false_iff.mpr c17;subst c17;have H1:(impl_IsCover.l0 kj3 l1 l2 l0 (l0.length:Int) 0)=some (r1,r2):=by rw [if_neg (show ¬ (false=true) by decide)] at H;exact H
     clear H;have H:=H1;clear H1;have H':=aM H;clear H;go_wp2;go_loopg [31] kj3 (fun kq v31 w'=>∃ (x31_2:Int),v31= .int .i64 x31_2∧Aside0 (impl_IsCover.l0 kq l1 l2 l0 (l0.length:Int) x31_2=some (r1,r2))∧Aside0 (kq≤kj3)∧Aside0 (Below w.heap.size w w'))
     case atStart=>exact ⟨(0),(by first|rfl|(simp;done)|(simp [*];done)),H',⟨Nat.le_refl _⟩,⟨by repeat (first|(with_reducible first|exact HB.out|apply Qb|apply Qa|apply Qc)|exact HB.out)⟩⟩
     case round=>
      clear H';(try clear c1);(try clear c2);(try clear p2);(try clear c6);(try clear c7);(try clear c8);(try clear c17);(try clear p2);obtain ⟨x31_2,rfl,HA,HK2,HB⟩:=hrel
      cases gk with
      |zero=>exact absurd HA.out (by simp [impl_IsCover.l0])
      |succ k2=>
       have H:=HA.out;clear HA;simp only [impl_IsCover.l0] at H;by_cases c18:x31_2<(l0.length:Int)
       ·rw [if_pos c18] at H;have c18b0:decide (x31_2<(l0.length:Int))=true:=decide_eq_true c18;clear c18;by_cases c19:0≤x31_2
        ·rw [if_pos c19] at H;have c19b0:decide (0≤x31_2)=true:=decide_eq_true c19;clear c19;by_cases c20:x31_2<(l0.length:Int)
         ·rw [if_pos c20] at H;have c20b0:decide (x31_2<(l0.length:Int))=true:=decide_eq_true c20;clear c20;have H':=aM H;clear H;have p105:0≤(x31_2:Int):=of_decide_eq_true (by first|(with_reducible assumption)|assumption);have q105:x31_2<(l0.length:Int):=of_decide_eq_true (by first|(with_reducible assumption)|assumption);obtain ⟨ad105,A105_0,c105_0,e105,hx105_0,hl105_0,hi105_0⟩:=at_L7 HR0.out x31_2 p105 q105
          cases e105
          replace hx105_0:=(HB.out.cell (aI w _ hx105_0)).trans hx105_0;have HR105_0:=aM hi105_0;have HC105_0:=aM hl105_0;clear hi105_0 hl105_0;replace p105:=eq_true p105;replace q105:=eq_true q105;go_wp2;go_loopg [38] k2 (fun kq v38 w'=>∃ (x38_3:Int),v38= .int .i64 x38_3∧Aside0 (impl_IsCover.l1 kq l1 l2 x31_2 l0 (l0.length:Int) x31_2 (rd_L7 l0 x31_2) ((rd_L7 l0 x31_2).length:Int) x38_3=some (r1,r2))∧Aside0 (kq≤k2)∧Aside0 (Below w.heap.size w w'))
          case atStart=>exact ⟨(0),(by first|rfl|(simp;done)|(simp [*];done)),H',⟨Nat.le_refl _⟩,⟨by repeat (first|(with_reducible first|exact HB.out|apply Qb|apply Qa|apply Qc)|exact HB.out)⟩⟩
          case round=>
           clear H';(try clear c1);(try clear p1);(try clear q1);(try clear hx1);(try clear c2);(try clear p2);(try clear c6);(try clear c7);(try clear c8);(try clear c10);(try clear p10);(try clear q10);(try clear hx10);(try clear c17);(try clear c18);(try clear c18b0);(try clear c19);(try clear c19b0);(try clear c20);(try clear c20b0);(try clear hx105_0);(try clear p105);(try clear p2);(try clear q105);obtain ⟨x38_3,rfl,HA,HK3,HB⟩:=hrel
           cases gk with
           |zero=>exact absurd HA.out (by simp [impl_IsCover.l1])
           |succ k3=>
            have H:=HA.out;clear HA;simp only [impl_IsCover.l1] at H;by_cases c21:x38_3<((rd_L7 l0 x31_2).length:Int)
            ·rw [if_pos c21] at H;have c21b0:decide (x38_3<((rd_L7 l0 x31_2).length:Int))=true:=decide_eq_true c21;clear c21;by_cases c22:0≤x38_3
             ·rw [if_pos c22] at H;have c22b0:decide (0≤x38_3)=true:=decide_eq_true c22;clear c22;by_cases c23:x38_3<((rd_L7 l0 x31_2).length:Int)
              ·rw [if_pos c23] at H;have c23b0:decide (x38_3<((rd_L7 l0 x31_2).length:Int))=true:=decide_eq_true c23;clear c23;obtain ⟨bq24,hbq24⟩:∃ b_:Bool,b_=(rdOf false (rd_L7 l0 x31_2) x38_3):=⟨_,rfl⟩;replace H:(if bq24=true then ((slices_Contains_int_int.f k3 l1 x31_2).bind fun t107=>(if t107=true then (impl_IsCover.l1 k3 l1 l2 x31_2 l0 (l0.length:Int) x31_2 (rd_L7 l0 x31_2) ((rd_L7 l0 x31_2).length:Int) (wrap64 (x38_3+1))) else ((slices_Contains_int_int.f k3 l2 x38_3).bind fun t108=>(if t108=true then (impl_IsCover.l1 k3 l1 l2 x31_2 l0 (l0.length:Int) x31_2 (rd_L7 l0 x31_2) ((rd_L7 l0 x31_2).length:Int) (wrap64 (x38_3+1))) else (some (false,true)))))) else (impl_IsCover.l1 k3 l1 l2 x31_2 l0 (l0.length:Int) x31_2 (rd_L7 l0 x31_2) ((rd_L7 l0 x31_2).length:Int) (wrap64 (x38_3+1))))=some (r1,r2):=by rw [←hbq24] at H;exact H
               have Nbq24:=aM hbq24;clear hbq24;by_cases c25:bq24=true
               ·subst c25;have H1:((slices_Contains_int_int.f k3 l1 x31_2).bind fun t107=>(if t107=true then (impl_IsCover.l1 k3 l1 l2 x31_2 l0 (l0.length:Int) x31_2 (rd_L7 l0 x31_2) ((rd_L7 l0 x31_2).length:Int) (wrap64 (x38_3+1))) else ((slices_Contains_int_int.f k3 l2 x38_3).bind fun t108=>(if t108=true then (impl_IsCover.l1 k3 l1 l2 x31_2 l0 (l0.length:Int) x31_2 (rd_L7 l0 x31_2) ((rd_L7 l0 x31_2).length:Int) (wrap64 (x38_3+1))) else (some (false,true))))))=some (r1,r2):=by rw [if_pos rfl] at H;exact H
                clear H;have H:=H1;clear H1;replace H:=Option.bind_eq_some_iff.mp H;obtain ⟨t107,A260,H⟩:=H;replace H:(if t107=true then (impl_IsCover.l1 k3 l1 l2 x31_2 l0 (l0.length:Int) x31_2 (rd_L7 l0 x31_2) ((rd_L7 l0 x31_2).length:Int) (wrap64 (x38_3+1))) else ((slices_Contains_int_int.f k3 l2 x38_3).bind fun t108=>(if t108=true then (impl_IsCover.l1 k3 l1 l2 x31_2 l0 (l0.length:Int) x31_2 (rd_L7 l0 x31_2) ((rd_L7 l0 x31_2).length:Int) (wrap64 (x38_3+1))) else (some (false,true)))))=some (r1,r2):=H;have A26:=aM A260;clear A260;by_cases c27:t107=true
                ·subst c27;have H1:(impl_IsCover.l1 k3 l1 l2 x31_2 l0 (l0.length:Int) x31_2 (rd_L7 l0 x31_2) ((rd_L7 l0 x31_2).length:Int) (wrap64 (x38_3+1)))=some (r1,r2):=by rw [if_pos rfl] at H;exact H
                 clear H;have H:=H1;clear H1;have H':=aM H;clear H;have p106:0≤(x38_3:Int):=of_decide_eq_true (by first|(with_reducible assumption)|assumption);have q106:x38_3<((rd_L7 l0 x31_2).length:Int):=of_decide_eq_true (by first|(with_reducible assumption)|assumption);obtain ⟨ad106,e106,hx106_0⟩:=Kd.at_bool HR105_0.out x38_3 p106 q106;(try rw [←Nbq24.out] at hx106_0)
                 cases e106
                 replace hx106_0:=(HB.out.cell (aI w _ hx106_0)).trans hx106_0;replace p106:=eq_true p106;replace q106:=eq_true q106;go_wp2_with (first|(go_at_call 168;(with_reducible refine (slices_Contains_int_int.calls k3 _ _ l1 x31_2 true _ ?side1 ?side2 A26.out).mono ?_);(case side1=>repeat (first|exact (Kd.C_below HR1.out HB.out)|(with_reducible refine Kd.Qj ?_ _)|(with_reducible refine Kd.Qk ?_ _)|(with_reducible refine Kd.C_drew ?_)));(case side2=>exact HC1.out);rintro e w' ⟨rfl,⟨nd,rfl⟩⟩))
                 go_roundg k3
                 case measure=>have:=HJ3.out;have:=HK2.out;have:=HK3.out;omega
                 case rel=>exact ⟨(wrap64 (x38_3+1)),(by first|rfl|(simp;done)|(simp [*];done)),H',⟨by have:=HJ3.out;have:=HK2.out;have:=HK3.out;omega⟩,⟨by repeat (first|(with_reducible first|exact HB.out|apply Qb|apply Qa|apply Qc)|exact HB.out)⟩⟩
                ·replace c27:=Bool.eq_false_iff.mpr c27;subst c27;have H1:((slices_Contains_int_int.f k3 l2 x38_3).bind fun t108=>(if t108=true then (impl_IsCover.l1 k3 l1 l2 x31_2 l0 (l0.length:Int) x31_2 (rd_L7 l0 x31_2) ((rd_L7 l0 x31_2).length:Int) (wrap64 (x38_3+1))) else (some (false,true))))=some (r1,r2):=by rw [if_neg (show ¬ (false=true) by decide)] at H;exact H
                 clear H;have H:=H1;clear H1;replace H:=Option.bind_eq_some_iff.mp H;obtain ⟨t108,A280,H⟩:=H;replace H:(if t108=true then (impl_IsCover.l1 k3 l1 l2 x31_2 l0 (l0.length:Int) x31_2 (rd_L7 l0 x31_2) ((rd_L7 l0 x31_2).length:Int) (wrap64 (x38_3+1))) else (some (false,true)))=some (r1,r2):=H;have A28:=aM A280;clear A280;by_cases c29:t108=true
                 ·subst c29;have H1:(impl_IsCover.l1 k3 l1 l2 x31_2 l0 (l0.length:Int) x31_2 (rd_L7 l0 x31_2) ((rd_L7 l0 x31_2).length:Int) (wrap64 (x38_3+1)))=some (r1,r2):=by rw [if_pos rfl] at H;exact H
                  clear H;have H:=H1;clear H1;have H':=aM H;clear H;have p106:0≤(x38_3:Int):=of_decide_eq_true (by first|(with_reducible assumption)|assumption);have q106:x38_3<((rd_L7 l0 x31_2).length:Int):=of_decide_eq_true (by first|(with_reducible assumption)|assumption);obtain ⟨ad106,e106,hx106_0⟩:=Kd.at_bool HR105_0.out x38_3 p106 q106;(try rw [←Nbq24.out] at hx106_0)
                  cases e106
                  replace hx106_0:=(HB.out.cell (aI w _ hx106_0)).trans hx106_0;replace p106:=eq_true p106;replace q106:=eq_true q106;go_wp2_with (first|(go_at_call 168;(with_reducible refine (slices_Contains_int_int.calls k3 _ _ l1 x31_2 false _ ?side1 ?side2 A26.out).mono ?_);(case side1=>repeat (first|exact (Kd.C_below HR1.out HB.out)|(with_reducible refine Kd.Qj ?_ _)|(with_reducible refine Kd.Qk ?_ _)|(with_reducible refine Kd.C_drew ?_)));(case side2=>exact HC1.out);rintro e w' ⟨rfl,⟨nd,rfl⟩⟩)|(go_at_call 168;(with_reducible refine (slices_Contains_int_int.calls k3 _ _ l2 x38_3 true _ ?side1 ?side2 A28.out).mono ?_);(case side1=>repeat (first|exact (Kd.C_below HR2.out (by repeat (first|(with_reducible first|exact HB.out|apply Qb|apply Qa|apply Qc)|exact HB.out)))|(with_reducible refine Kd.Qj ?_ _)|(with_reducible refine Kd.Qk ?_ _)|(with_reducible refine Kd.C_drew ?_)));(case side2=>exact HC2.out);rintro e w' ⟨rfl,⟨nd,rfl⟩⟩))
                  go_roundg k3
                  case measure=>have:=HJ3.out;have:=HK2.out;have:=HK3.out;omega
                  case rel=>exact ⟨(wrap64 (x38_3+1)),(by first|rfl|(simp;done)|(simp [*];done)),H',⟨by have:=HJ3.out;have:=HK2.out;have:=HK3.out;omega⟩,⟨by repeat (first|(with_reducible first|exact HB.out|apply Qb|apply Qa|apply Qc)|exact HB.out)⟩⟩
                 ·replace c29:=Bool.eq_false_iff.mpr c29;subst c29;have H1:(some (false,true))=some (r1,r2):=by rw [if_neg (show ¬ (false=true) by decide)] at H;exact H
                  clear H;have H:=H1;clear H1;simp only [Option.some.injEq,Prod.mk.injEq] at H;obtain ⟨rfl,rfl⟩:=H;have p106:0≤(x38_3:Int):=of_decide_eq_true (by first|(with_reducible assumption)|assumption);have q106:x38_3<((rd_L7 l0 x31_2).length:Int):=of_decide_eq_true (by first|(with_reducible assumption)|assumption);obtain ⟨ad106,e106,hx106_0⟩:=Kd.at_bool HR105_0.out x38_3 p106 q106;(try rw [←Nbq24.out] at hx106_0)
                  cases e106
                  replace hx106_0:=(HB.out.cell (aI w _ hx106_0)).trans hx106_0;replace p106:=eq_true p106;replace q106:=eq_true q106;go_wp2_with (first|(go_at_call 168;(with_reducible refine (slices_Contains_int_int.calls k3 _ _ l1 x31_2 false _ ?side1 ?side2 A26.out).mono ?_);(case side1=>repeat (first|exact (Kd.C_below HR1.out HB.out)|(with_reducible refine Kd.Qj ?_ _)|(with_reducible refine Kd.Qk ?_ _)|(with_reducible refine Kd.C_drew ?_)));(case side2=>exact HC1.out);rintro e w' ⟨rfl,⟨nd,rfl⟩⟩)|(go_at_call 168;(with_reducible refine (slices_Contains_int_int.calls k3 _ _ l2 x38_3 false _ ?side1 ?side2 A28.out).mono ?_);(case side1=>repeat (first|exact (Kd.C_below HR2.out (by repeat (first|(with_reducible first|exact HB.out|apply Qb|apply Qa|apply Qc)|exact HB.out)))|(with_reducible refine Kd.Qj ?_ _)|(with_reducible refine Kd.Qk ?_ _)|(with_reducible refine Kd.C_drew ?_)));(case side2=>exact HC2.out);rintro e w' ⟨rfl,⟨nd,rfl⟩⟩))
                  go_ret2
                  exact ⟨by first|rfl|(simp [errW_none,errW_some] <;> rfl)|(simp [*,errW_none,errW_some] <;> rfl),by repeat (first|(with_reducible first|exact HB.out|apply Qb|apply Qa|apply Qc)|exact HB.out)⟩
               ·replace c25:=Bool.eq_false_iff.mpr c25;subst c25;have H1:(impl_IsCover.l1 k3 l1 l2 x31_2 l0 (l0.length:Int) x31_2 (rd_L7 l0 x31_2) ((rd_L7 l0 x31_2).length:Int) (wrap64 (x38_3+1)))=some (r1,r2):=by rw [if_neg (show ¬ (false=true) by decide)] at H;exact H
                clear H;have H:=H1;clear H1;have H':=aM H;clear H;have p106:0≤(x38_3:Int):=of_decide_eq_true (by first|(with_reducible assumption)|assumption);have q106:x38_3<((rd_L7 l0 x31_2).length:Int):=of_decide_eq_true (by first|(with_reducible assumption)|assumption);obtain ⟨ad106,e106,hx106_0⟩:=Kd.at_bool HR105_0.out x38_3 p106 q106;(try rw [←Nbq24.out] at hx106_0)
                cases e106
                replace hx106_0:=(HB.out.cell (aI w _ hx106_0)).trans hx106_0;replace p106:=eq_true p106;replace q106:=eq_true q106;go_wp2;go_roundg k3
                case measure=>have:=HJ3.out;have:=HK2.out;have:=HK3.out;omega
                case rel=>exact ⟨(wrap64 (x38_3+1)),(by first|rfl|(simp;done)|(simp [*];done)),H',⟨by have:=HJ3.out;have:=HK2.out;have:=HK3.out;omega⟩,⟨by repeat (first|(with_reducible first|exact HB.out|apply Qb|apply Qa|apply Qc)|exact HB.out)⟩⟩
              ·rw [if_neg c23] at H;exact absurd H (by simp)
             ·rw [if_neg c22] at H;exact absurd H (by simp)
            ·rw [if_neg c21] at H;have c21b0:decide (x38_3<((rd_L7 l0 x31_2).length:Int))=false:=decide_eq_false c21;clear c21;have H':=aM H;clear H;go_wp2;go_roundg k3
             case measure=>have:=HJ3.out;have:=HK2.out;have:=HK3.out;omega
             case rel=>exact ⟨(wrap64 (x31_2+1)),(by first|rfl|(simp;done)|(simp [*];done)),H',⟨by have:=HJ3.out;have:=HK2.out;have:=HK3.out;omega⟩,⟨by repeat (first|(with_reducible first|exact HB.out|apply Qb|apply Qa|apply Qc)|exact HB.out)⟩⟩
         ·rw [if_neg c20] at H;exact absurd H (by simp)
        ·rw [if_neg c19] at H;exact absurd H (by simp)
       ·rw [if_neg c18] at H;have c18b0:decide (x31_2<(l0.length:Int))=false:=decide_eq_false c18;clear c18;simp only [Option.some.injEq,Prod.mk.injEq] at H;obtain ⟨rfl,rfl⟩:=H;go_wp2
        go_ret2
        exact ⟨by first|rfl|(simp [errW_none,errW_some] <;> rfl)|(simp [*,errW_none,errW_some] <;> rfl),by repeat (first|(with_reducible first|exact HB.out|apply Qb|apply Qa|apply Qc)|exact HB.out)⟩

mutual
def spec_DrawIsCover.j0:Nat→List (List Bool)→List Int→List Int→Bool→List Int→Int→Int→Option ((List (List Bool))×List Int×List Int)
  |0,_,_,_,_,_,_,_=>none
  |k+1,x6,x7,x8,x27,x102000,x102001,x102002=>if x27=true then (if 1≤(x7.length:Int) then (spec_DrawIsCover.j1 k x6 (x7.drop (1:Int).toNat) x8 x102000 x102001 x102002) else (none)) else (spec_DrawIsCover.j1 k x6 x7 x8 x102000 x102001 x102002)
def spec_DrawIsCover.j1:Nat→List (List Bool)→List Int→List Int→List Int→Int→Int→Option ((List (List Bool))×List Int×List Int)
  |0,_,_,_,_,_,_=>none
  |k+1,x6,x7,x8,x102000,x102001,x102002=>if (x8.length:Int) > 0 then ((spec_l1Cur_one.f x102000 x102001 x102002 6).bind fun bt120=>(if bt120.1=true then ((spec_l1Cur_pick.f x102000 bt120.2.1 bt120.2.2 9).bind fun bt123=>(if 0<(x8.length:Int) then (some (x6,x7,(x8.set (0:Int).toNat bt123.1))) else (none))) else (some (x6,x7,x8)))) else (some (x6,x7,x8))
end
def spec_DrawIsCover.f (k:Nat) (l0:List Int):Option ((List (List Bool))×List Int×List Int):=(spec_l1Cur_fits.f k l0 0 0).bind fun bt102=>((spec_CoverOf.f k bt102.1).bind fun bt107=>(if (bt107.1.length:Int) > 0 then ((spec_l1Cur_one.f l0 bt102.2.1 bt102.2.2 3).bind fun bt114=>(spec_DrawIsCover.j0 k bt102.1 bt107.1 bt107.2.1 bt114.1 l0 bt114.2.1 bt114.2.2)) else (spec_DrawIsCover.j0 k bt102.1 bt107.1 bt107.2.1 false l0 bt102.2.1 bt102.2.2)))
set_option maxHeartbeats 8000000 in
set_option maxRecDepth 100000 in
theorem spec_DrawIsCover.calls (k:Nat) (A0:Option Addr) (c0:Nat) (l0:List Int) (r1:List (List Bool)) (r2:List Int) (r3:List Int) (w:World) (hr0:Kd.C (Kd.int .u8) w A0 l0.length l0) (hc0:l0.length≤c0) (h:spec_DrawIsCover.f k l0=some (r1,r2,r3)) :
    Calls Try.prog 77 #[.slice A0 l0.length c0] w fun e w'=>∃ v0_ v1_ v2_:Value,e= .returned (.tuple #[v0_,v1_,v2_])∧Kd.N (Kd.slice 4 Kd.bool) 88 w' w.heap.size (fun k_=>(w.heap.size≤k_)∧some k_≠(v1_:Value).ownBlock∧some k_≠(v2_:Value).ownBlock) v0_ r1∧Kd.Q (Kd.int .i64) 3 w' w.heap.size (fun k_=>(w.heap.size≤k_)∧some k_≠(v2_:Value).ownBlock) v1_ r2∧Kd.R (Kd.int .i64) 3 w' w.heap.size (fun k_=>(w.heap.size≤k_)∧some k_≠(v1_:Value).ownBlock) v2_ r3∧Below w.heap.size w w':=by
  have hu117:=Try.underlying117;have HR0:=aM hr0;have HC0:=aM hc0;clear hr0 hc0;have HB:=aM (Below.refl w.heap.size w);have H:((spec_l1Cur_fits.f k l0 0 0).bind fun bt102=>((spec_CoverOf.f k bt102.1).bind fun bt107=>(if (bt107.1.length:Int) > 0 then ((spec_l1Cur_one.f l0 bt102.2.1 bt102.2.2 3).bind fun bt114=>(spec_DrawIsCover.j0 k bt102.1 bt107.1 bt107.2.1 bt114.1 l0 bt114.2.1 bt114.2.2)) else (spec_DrawIsCover.j0 k bt102.1 bt107.1 bt107.2.1 false l0 bt102.2.1 bt102.2.2))))=some (r1,r2,r3):=h;clear h;replace H:=Option.bind_eq_some_iff.mp H;obtain ⟨⟨t102,t105,t106⟩,A20,H⟩:=H;replace H:((spec_CoverOf.f k t102).bind fun bt107=>(if (bt107.1.length:Int) > 0 then ((spec_l1Cur_one.f l0 t105 t106 3).bind fun bt114=>(spec_DrawIsCover.j0 k t102 bt107.1 bt107.2.1 bt114.1 l0 bt114.2.1 bt114.2.2)) else (spec_DrawIsCover.j0 k t102 bt107.1 bt107.2.1 false l0 t105 t106)))=some (r1,r2,r3):=H;have A2:=aM A20;clear A20;replace H:=Option.bind_eq_some_iff.mp H;obtain ⟨⟨t107,t108,t109⟩,A30,H⟩:=H;replace H:(if (t107.length:Int) > 0 then ((spec_l1Cur_one.f l0 t105 t106 3).bind fun bt114=>(spec_DrawIsCover.j0 k t102 t107 t108 bt114.1 l0 bt114.2.1 bt114.2.2)) else (spec_DrawIsCover.j0 k t102 t107 t108 false l0 t105 t106))=some (r1,r2,r3):=H;have A3:=aM A30;clear A30;have HC4:=aM H;clear H;go_enter Try.func77,Try.ntmps77
  go_upto_region 4 with (first|((with_reducible refine gate_dst (N:=12) rfl ?_);refine box_event ?hg (N:=12) ?hd (cs:=#[.slice A0 l0.length c0,.int .i64 0,.int .u64 0]) (t:=117) ?hr ?_;(case hd=>rfl);(case hg=>rfl);(case hr=>first|(go_simp;done)|(go_simp;rfl));intro gb101 hg w5 hbox hb;have n0_:=aM (Qi (by repeat (first|(with_reducible first|exact HB.out|apply Qb|apply Qa|apply Qc)|exact HB.out)) hb);have n1_:=aM ((show IsS117 w w5 gb101 l0 0 0 from ⟨A0,c0,hbox,(by rw [hg];exact (Ql (by repeat (first|(with_reducible first|exact HB.out|apply Qb|apply Qa|apply Qc)|exact HB.out)))),HR0.out⟩));have n2_:=aM ((by rw [hg];exact (Ql (by repeat (first|(with_reducible first|exact HB.out|apply Qb|apply Qa|apply Qc)|exact HB.out))):w.heap.size≤gb101));have n3_:=aM ((by rw [hg];exact (Ql (by repeat (first|(with_reducible first|exact HB.out|apply Qb|apply Qa|apply Qc)|exact HB.out))):w.heap.size≤gb101));clear HB;have HB:=n0_;have HI101:=n1_;have GW101:=n2_;have GE101:=n3_;clear n0_ n1_ n2_ n3_;clear hb hbox hg)|((with_reducible refine Qh (f:=169) rfl ?_);refine goesL_ (some 14) rfl rfl Try.func169 (by kernel_rfl) rfl #[.pointer (some ⟨gb101,0,none⟩)] rfl (by (try simp only [aD,aE,aF]);first|done|rfl|(simp only [aG,aH];rfl)) ?_;(with_reducible refine (spec_l1Cur_fits.calls k gb101 l0 0 0 t102 t105 t106 w _ ?side1 ?side2 A2.out).mono ?_);(case side1=>repeat (first|(with_reducible first|exact HI101.out|apply IsS117.alloc|apply IsS117.drewN|apply IsS117.drew|apply IsS117.set_1|apply IsS117.set_2)|exact HI101.out));(case side2=>repeat (first|(with_reducible first|exact HB.out|apply Qb|apply Qa|apply Qc|refine Qg ?_ (IsS117.ge HI101.out))|exact HB.out));rintro e w6 ⟨v103,rfl,ho0,hi,hb,hk⟩;refine ⟨_,rfl,?_⟩;have n0_:=aM (Kd.N_lower (Kd.N_mono (ok':=fun k_=>(w.heap.size≤k_)∧k_≠gb101) ho0 (fun k_ hk_=>⟨(Nat.le_trans (Ql (by repeat (first|(with_reducible first|exact HB.out|apply Qb|apply Qa|apply Qc|refine Qg ?_ (IsS117.ge HI101.out))|exact HB.out))) hk_),(IsS117.fresh (by repeat (first|(with_reducible first|exact HI101.out|apply IsS117.alloc|apply IsS117.drewN|apply IsS117.drew|apply IsS117.set_1|apply IsS117.set_2)|exact HI101.out)) k_ hk_)⟩)) (Ql (by repeat (first|(with_reducible first|exact HB.out|apply Qb|apply Qa|apply Qc|refine Qg ?_ (IsS117.ge HI101.out))|exact HB.out))));have n1_:=aM (hb);have n2_:=aM (hi);clear HB;clear HI101;have HO104:=n0_;have HB:=n1_;have HI101:=n2_;clear n0_ n1_ n2_;(try clear hb);(try clear hb2);(try clear hk);(try clear hi);(try clear ho0);obtain ⟨Ao7,co7,eo7⟩:=Kd.N_slice HO104.out;subst eo7)|((with_reducible refine Qh (f:=70) rfl ?_);refine goesL_ (some 17) rfl rfl Try.func70 (by kernel_rfl) rfl #[.slice Ao7 t102.length co7] rfl (by (try simp only [aD,aE,aF]);first|done|rfl|(simp only [aG,aH];rfl)) ?_;(with_reducible refine (spec_CoverOf.calls k _ _ t102 t107 t108 t109 _ ?side1 ?side2 A3.out).mono ?_);(case side1=>repeat (first|exact (Kd.N_reads' HO104.out).2.2|(with_reducible refine Kd.Qj ?_ _)|(with_reducible refine Kd.Qk ?_ _)|(with_reducible refine Kd.C_drew ?_)));(case side2=>exact (Kd.N_reads' HO104.out).2.1);rintro e w8 ⟨v110,v112,rfl,ho0,ho1,hb⟩;refine ⟨_,rfl,?_⟩;have n0_:=aM (Kd.N_mono (Kd.N_told (Kd.N_told (Kd.N_old (by (with_reducible repeat (first|apply Kd.N_alloc|apply Kd.N_drewN|apply Kd.N_drew));exact HO104.out) hb) (Kd.R_base ho0)) (Kd.R_base ho1)) (fun _ h_=>h_.1));have n1_:=aM (Kd.R_lower (Kd.R_newM (M:=fun k_=>(w.heap.size≤k_)) ho0 (Ql (by repeat (first|(with_reducible first|exact HB.out|apply Qb|apply Qa|apply Qc|refine Qg ?_ (IsS117.ge HI101.out))|exact HB.out))) (fun k_ h_=>h_)) (Ql (by repeat (first|(with_reducible first|exact HB.out|apply Qb|apply Qa|apply Qc|refine Qg ?_ (IsS117.ge HI101.out))|exact HB.out))));have n2_:=aM (Kd.R_lower (Kd.R_newM (M:=fun k_=>(w.heap.size≤k_)) ho1 (Ql (by repeat (first|(with_reducible first|exact HB.out|apply Qb|apply Qa|apply Qc|refine Qg ?_ (IsS117.ge HI101.out))|exact HB.out))) (fun k_ h_=>h_)) (Ql (by repeat (first|(with_reducible first|exact HB.out|apply Qb|apply Qa|apply Qc|refine Qg ?_ (IsS117.ge HI101.out))|exact HB.out))));have n3_:=aM (IsS117.below (by repeat (first|(with_reducible first|exact HI101.out|apply IsS117.alloc|apply IsS117.drewN|apply IsS117.drew|apply IsS117.set_1|apply IsS117.set_2)|exact HI101.out)) hb);have n4_:=aM (Qi (by repeat (first|(with_reducible first|exact HB.out|apply Qb|apply Qa|apply Qc|refine Qg ?_ (IsS117.ge HI101.out))|exact HB.out)) hb);clear HO104;clear HI101;clear HB;have HO104:=n0_;have HO111:=n1_;have HO113:=n2_;have HI101:=n3_;have HB:=n4_;clear n0_ n1_ n2_ n3_ n4_;(try clear hb);(try clear hb2);(try clear hk);(try clear hi);(try clear ho0);(try clear ho1)))
  (try simp only [Act.put,aA,aB,aC])
  go_cut [27] (fun v27 wc=>∃ (kq:Nat) (x27_3:Bool) (x102001_3:Int) (x102002_3:Int),v27= .bool x27_3∧Aside0 (spec_DrawIsCover.j0 kq t102 t107 t108 x27_3 l0 x102001_3 x102002_3=some (r1,r2,r3))∧Aside0 (kq≤k)∧Aside0 (Kd.N (Kd.slice 4 Kd.bool) 88 wc w.heap.size (fun k_=>(w.heap.size≤k_)∧some k_≠(v110:Value).ownBlock∧some k_≠(v112:Value).ownBlock∧k_≠gb101) (.slice Ao7 t102.length co7) t102)∧Aside0 (Kd.R (Kd.int .i64) 3 wc w.heap.size (fun k_=>(w.heap.size≤k_)∧some k_≠(v112:Value).ownBlock) v110 t107)∧Aside0 (Kd.R (Kd.int .i64) 3 wc w.heap.size (fun k_=>(w.heap.size≤k_)∧some k_≠(v110:Value).ownBlock) v112 t108)∧Aside0 (IsS117 w wc gb101 l0 x102001_3 x102002_3)∧Aside0 (Below w.heap.size w wc))
  case first=>
   have H:=HC4.out;clear HC4;by_cases c9:(t107.length:Int) > 0
   ·rw [if_pos c9] at H;have c9b0:decide (0<(t107.length:Int))=true:=decide_eq_true c9;have c9b1:decide (0<t107.length)=true:=decide_eq_true (by omega);clear c9
    (first|rw [c9b0]|(simp only [i64_w,i32_w];rw [c9b0])|skip)
    replace H:=Option.bind_eq_some_iff.mp H;obtain ⟨⟨t114,t115,t116⟩,A100,H⟩:=H;replace H:(spec_DrawIsCover.j0 k t102 t107 t108 t114 l0 t115 t116)=some (r1,r2,r3):=H;have A10:=aM A100;clear A100;have H':=aM H;clear H;obtain ⟨Ao11,co11,eo11⟩:=Kd.R_slice HO111.out;subst eo11;go_wp2_with (first|(go_at_call 120;(with_reducible refine (spec_l1Cur_one.calls gb101 l0 t105 t106 3 t114 t115 t116 w _ ?side1 ?side2 A10.out).mono ?_);(case side1=>repeat (first|(with_reducible first|exact HI101.out|apply IsS117.alloc|apply IsS117.drewN|apply IsS117.drew|apply IsS117.set_1|apply IsS117.set_2)|exact HI101.out));(case side2=>repeat (first|(with_reducible first|exact HB.out|apply Qb|apply Qa|apply Qc|refine Qg ?_ (IsS117.ge HI101.out))|exact HB.out));rintro e w12 ⟨rfl,hi,hb,hk⟩;have n0_:=aM (Kd.N_mono (Kd.N_keep (Kd.N_mono (ok:=fun k_=>(((((w.heap.size≤k_))∧k_≠gb101)∧some k_≠(.slice Ao11 t107.length co11:Value).ownBlock)∧some k_≠(v112:Value).ownBlock)) (by (with_reducible repeat (first|apply Kd.N_alloc|apply Kd.N_drewN|apply Kd.N_drew));exact HO104.out) (fun k_ hk_=>(⟨hk_,hk_.1.1.2⟩:_∧k_≠gb101))) hk (fun _ h=>h.2)) (fun _ h=>h.1));have n1_:=aM (Kd.R_mono (Kd.R_keep (IsS117.apart (show IsS117 w _ gb101 l0 t105 t106 from by repeat (first|(with_reducible first|exact HI101.out|apply IsS117.alloc|apply IsS117.drewN|apply IsS117.drew|apply IsS117.set_1|apply IsS117.set_2)|exact HI101.out)) (by (with_reducible repeat (first|apply Kd.Qd|apply Kd.Qe|apply Kd.R_drew));exact HO111.out) (by decide)) hk (fun _ h=>h.2)) (fun _ h=>h.1));have n2_:=aM (Kd.R_mono (Kd.R_keep (IsS117.apart (show IsS117 w _ gb101 l0 t105 t106 from by repeat (first|(with_reducible first|exact HI101.out|apply IsS117.alloc|apply IsS117.drewN|apply IsS117.drew|apply IsS117.set_1|apply IsS117.set_2)|exact HI101.out)) (by (with_reducible repeat (first|apply Kd.Qd|apply Kd.Qe|apply Kd.R_drew));exact HO113.out) (by decide)) hk (fun _ h=>h.2)) (fun _ h=>h.1));have n3_:=aM (hb);have n4_:=aM (hi);clear HO104;clear HO111;clear HO113;clear HB;clear HI101;have HO104:=n0_;have HO111:=n1_;have HO113:=n2_;have HB:=n3_;have HI101:=n4_;clear n0_ n1_ n2_ n3_ n4_;(try clear hb);(try clear hb2);(try clear hk);(try clear hi)))
    go_meet
    case rel=>exact ⟨_,(t114),(t115),(t116),(by first|rfl|(simp;done)|(simp [*];done)),H',⟨by first|omega|exact Nat.le_refl _⟩,⟨by (with_reducible repeat (first|apply Kd.N_alloc|apply Kd.N_drewN|apply Kd.N_drew));exact Kd.N_mono HO104.out (fun _ hk=>⟨hk.1.1.1,⟨hk.1.2,⟨hk.2,hk.1.1.2⟩⟩⟩)⟩,⟨by (with_reducible repeat (first|apply Kd.Qd|apply Kd.Qe|apply Kd.R_drew));exact HO111.out⟩,⟨by (with_reducible repeat (first|apply Kd.Qd|apply Kd.Qe|apply Kd.R_drew));exact HO113.out⟩,⟨by repeat (first|(with_reducible first|exact HI101.out|apply IsS117.alloc|apply IsS117.drewN|apply IsS117.drew|apply IsS117.set_1|apply IsS117.set_2)|exact HI101.out)⟩,⟨by repeat (first|(with_reducible first|exact HB.out|apply Qb|apply Qa|apply Qc|refine Qg ?_ (IsS117.ge HI101.out))|exact HB.out)⟩⟩
   ·rw [if_neg c9] at H;have c9b0:decide (0<(t107.length:Int))=false:=decide_eq_false c9;have c9b1:decide (0<t107.length)=false:=decide_eq_false (by omega);clear c9
    (first|rw [c9b0]|(simp only [i64_w,i32_w];rw [c9b0])|skip)
    have H':=aM H;clear H;obtain ⟨Ao13,co13,eo13⟩:=Kd.R_slice HO111.out;subst eo13;go_wp2
    go_meet
    case rel=>exact ⟨_,(false),(t105),(t106),(by first|rfl|(simp;done)|(simp [*];done)),H',⟨by first|omega|exact Nat.le_refl _⟩,⟨by (with_reducible repeat (first|apply Kd.N_alloc|apply Kd.N_drewN|apply Kd.N_drew));exact Kd.N_mono HO104.out (fun _ hk=>⟨hk.1.1.1,⟨hk.1.2,⟨hk.2,hk.1.1.2⟩⟩⟩)⟩,⟨by (with_reducible repeat (first|apply Kd.Qd|apply Kd.Qe|apply Kd.R_drew));exact HO111.out⟩,⟨by (with_reducible repeat (first|apply Kd.Qd|apply Kd.Qe|apply Kd.R_drew));exact HO113.out⟩,⟨by repeat (first|(with_reducible first|exact HI101.out|apply IsS117.alloc|apply IsS117.drewN|apply IsS117.drew|apply IsS117.set_1|apply IsS117.set_2)|exact HI101.out)⟩,⟨by repeat (first|(with_reducible first|exact HB.out|apply Qb|apply Qa|apply Qc|refine Qg ?_ (IsS117.ge HI101.out))|exact HB.out)⟩⟩
  case rest=>
   clear HC4;(try clear c1);(try clear p2);(try clear c7);(try clear c9);(try clear c9b0);(try clear c9b1);obtain ⟨kq,x27_3,x102001_3,x102002_3,rfl,HA,HJ3,HO_6,HO_7,HO_8,HI101,HB⟩:=hcut
   cases kq with
   |zero=>exact absurd HA.out (by simp [spec_DrawIsCover.j0])
   |succ kj3=>
    have H:=HA.out;clear HA;simp only [spec_DrawIsCover.j0] at H;have HC14:=aM H;clear H
    go_upto_if 27 with (fail)
    go_cut [7] (fun v7 wc=>∃ (kq:Nat) (x7_13:List Int),Aside0 (spec_DrawIsCover.j1 kq t102 x7_13 t108 l0 x102001_3 x102002_3=some (r1,r2,r3))∧Aside0 (kq≤kj3)∧Aside0 (Kd.N (Kd.slice 4 Kd.bool) 88 wc w.heap.size (fun k_=>(w.heap.size≤k_)∧some k_≠(v7:Value).ownBlock∧some k_≠(v112:Value).ownBlock∧k_≠gb101) (.slice Ao7 t102.length co7) t102)∧Aside0 (Kd.Q (Kd.int .i64) 3 wc w.heap.size (fun k_=>(w.heap.size≤k_)∧some k_≠(v112:Value).ownBlock) v7 x7_13)∧Aside0 (Kd.R (Kd.int .i64) 3 wc w.heap.size (fun k_=>(w.heap.size≤k_)∧some k_≠(v7:Value).ownBlock) v112 t108)∧Aside0 (IsS117 w wc gb101 l0 x102001_3 x102002_3)∧Aside0 (Below w.heap.size w wc))
    case first=>
     have H:=HC14.out;clear HC14;by_cases c15:x27_3=true
     ·subst c15;have H1:(if 1≤(t107.length:Int) then (spec_DrawIsCover.j1 kj3 t102 (t107.drop (1:Int).toNat) t108 l0 x102001_3 x102002_3) else (none))=some (r1,r2,r3):=by rw [if_pos rfl] at H;exact H
      clear H;have H:=H1;clear H1;by_cases c16:1≤(t107.length:Int)
      ·rw [if_pos c16] at H;have c16b0:=eq_true c16;have c16b1:decide (1≤(t107.length:Int))=true:=decide_eq_true c16;clear c16;obtain ⟨y117,hy117⟩:∃ y_:List Int,y_=(t107.drop (1:Int).toNat):=⟨_,rfl⟩;replace H:(spec_DrawIsCover.j1 kj3 t102 y117 t108 l0 x102001_3 x102002_3)=some (r1,r2,r3):=by first|(rw [hy117];with_reducible exact H)|(have H2_:=(Option.bind_some _ _).symm.trans H;rw [hy117];with_reducible exact H2_)|(have H2_:=(Option.bind_some _ _).symm.trans H;with_reducible exact H2_)|with_reducible exact H|(rw [hy117];exact H)|exact H
       have Ny117:=aM hy117;clear hy117;have H':=aM H;clear H;obtain ⟨Ao17,co17,eo17⟩:=Kd.R_slice HO_7.out;subst eo17;have q18:(1:Int)≤((t107.length:Int):Int):=of_decide_eq_true (by first|(with_reducible assumption)|assumption);obtain ⟨i018,hi018,_,hsz18,_⟩:=info_parts info3;have hcut18:=cut_from (P:=Try.prog) 23 3 .i64 Try.underlying23 hi018 1 hsz18 Ao17 t107.length co17 1 (by omega) q18;have hr18:=Kd.Q_drop (k:=(1:Int).toNat) (Kd.Q_of_R HO_7.out) (by omega);obtain ⟨A18,hA18⟩:∃ A1,A1=(if co17=(1:Int).toNat then Ao17 else (Ao17:Option Addr).map (·.add ((1:Int).toNat * 1))):=⟨_,rfl⟩;obtain ⟨c18,hc18⟩:∃ c1,c1=co17 - (1:Int).toNat:=⟨_,rfl⟩;have hy18:y117.length=t107.length - (1:Int).toNat:=(by rw [Ny117.out,aG]);rw [←Ny117.out] at hr18;rw [←hy18,←hA18,←hc18] at hcut18;replace hr18:Kd.Q (Kd.int .i64) 3 wc w.heap.size (fun k_=>(w.heap.size≤k_)∧some k_≠(v112:Value).ownBlock) (.slice A18 y117.length c18) y117:=(by rw [hA18,hc18,hy18];exact hr18);have HE18:Aside0 ((Value.slice A18 y117.length c18).ownBlock=(.slice Ao17 t107.length co17:Value).ownBlock):=⟨by rw [hA18];split <;> (cases (Ao17:Option Addr) <;> rfl)⟩;clear hy18 hi018 hsz18 HO_7 hA18 hc18;have HO119:=aM hr18;clear hr18;replace q18:=eq_true q18;have n_:=aM (Kd.N_mono (ok':=fun k_=>(((w.heap.size≤k_))∧(some k_≠(.slice A18 y117.length c18:Value).ownBlock∧(some k_≠(v112:Value).ownBlock∧k_≠gb101)))) HO_6.out (fun k_ hk=>⟨hk.1,⟨(by rw [HE18.out];exact hk.2.1),⟨hk.2.2.1,hk.2.2.2⟩⟩⟩));clear HO_6;have HO_6:=n_;clear n_;have n_:=aM (Kd.R_mono (ok':=fun k_=>(((w.heap.size≤k_))∧some k_≠(.slice A18 y117.length c18:Value).ownBlock)) HO_8.out (fun k_ hk=>⟨hk.1,(by rw [HE18.out];exact hk.2)⟩));clear HO_8;have HO_8:=n_;clear n_;go_wp2
       go_meet
       case rel=>exact ⟨_,(y117),H',⟨by have:=HJ3.out;first|omega|exact Nat.le_refl _⟩,⟨by (with_reducible repeat (first|apply Kd.N_alloc|apply Kd.N_drewN|apply Kd.N_drew));exact HO_6.out⟩,⟨by (with_reducible repeat (first|apply Kd.Q_alloc|apply Kd.Q_drewN|apply Kd.Q_drew));exact HO119.out⟩,⟨by (with_reducible repeat (first|apply Kd.Qd|apply Kd.Qe|apply Kd.R_drew));exact HO_8.out⟩,⟨by repeat (first|(with_reducible first|exact HI101.out|apply IsS117.alloc|apply IsS117.drewN|apply IsS117.drew|apply IsS117.set_1|apply IsS117.set_2)|exact HI101.out)⟩,⟨by repeat (first|(with_reducible first|exact HB.out|apply Qb|apply Qa|apply Qc|refine Qg ?_ (IsS117.ge HI101.out))|exact HB.out)⟩⟩
      ·rw [if_neg c16] at H;exact absurd H (by simp)
     ·replace c15:=Bool.eq_false_iff.mpr c15;subst c15;have H1:(spec_DrawIsCover.j1 kj3 t102 t107 t108 l0 x102001_3 x102002_3)=some (r1,r2,r3):=by rw [if_neg (show ¬ (false=true) by decide)] at H;exact H
      clear H;have H:=H1;clear H1;have H':=aM H;clear H;go_wp2
      go_meet
      case rel=>exact ⟨_,(t107),H',⟨by have:=HJ3.out;first|omega|exact Nat.le_refl _⟩,⟨by (with_reducible repeat (first|apply Kd.N_alloc|apply Kd.N_drewN|apply Kd.N_drew));exact HO_6.out⟩,⟨Kd.Q_of_R (by (with_reducible repeat (first|apply Kd.Qd|apply Kd.Qe|apply Kd.R_drew));exact HO_7.out)⟩,⟨by (with_reducible repeat (first|apply Kd.Qd|apply Kd.Qe|apply Kd.R_drew));exact HO_8.out⟩,⟨by repeat (first|(with_reducible first|exact HI101.out|apply IsS117.alloc|apply IsS117.drewN|apply IsS117.drew|apply IsS117.set_1|apply IsS117.set_2)|exact HI101.out)⟩,⟨by repeat (first|(with_reducible first|exact HB.out|apply Qb|apply Qa|apply Qc|refine Qg ?_ (IsS117.ge HI101.out))|exact HB.out)⟩⟩
    case rest=>
     clear HC14;(try clear c1);(try clear q1);(try clear p2);(try clear c7);(try clear c9);(try clear c9b0);(try clear c9b1);(try clear c15);(try clear c16);(try clear c16b0);(try clear c16b1);(try clear c18);(try clear q18);(try clear p2);(try clear q18);obtain ⟨kq,x7_13,HA,HJ13,HO_6,HO_7,HO_8,HI101,HB⟩:=hcut
     cases kq with
     |zero=>exact absurd HA.out (by simp [spec_DrawIsCover.j1])
     |succ kj13=>
      have H:=HA.out;clear HA;simp only [spec_DrawIsCover.j1] at H;by_cases c19:(t108.length:Int) > 0
      ·rw [if_pos c19] at H;have c19b0:decide (0<(t108.length:Int))=true:=decide_eq_true c19;have c19b1:decide (0<t108.length)=true:=decide_eq_true (by omega);clear c19;replace H:=Option.bind_eq_some_iff.mp H;obtain ⟨⟨t120,t121,t122⟩,A200,H⟩:=H;replace H:(if t120=true then ((spec_l1Cur_pick.f l0 t121 t122 9).bind fun bt123=>(if 0<(t108.length:Int) then (some (t102,x7_13,(t108.set (0:Int).toNat bt123.1))) else (none))) else (some (t102,x7_13,t108)))=some (r1,r2,r3):=H;have A20:=aM A200;clear A200;by_cases c21:t120=true
       ·subst c21;have H1:((spec_l1Cur_pick.f l0 t121 t122 9).bind fun bt123=>(if 0<(t108.length:Int) then (some (t102,x7_13,(t108.set (0:Int).toNat bt123.1))) else (none)))=some (r1,r2,r3):=by rw [if_pos rfl] at H;exact H
        clear H;have H:=H1;clear H1;replace H:=Option.bind_eq_some_iff.mp H;obtain ⟨⟨t123,t124,t125⟩,A220,H⟩:=H;replace H:(if 0<(t108.length:Int) then (some (t102,x7_13,(t108.set (0:Int).toNat t123))) else (none))=some (r1,r2,r3):=H;have A22:=aM A220;clear A220;by_cases c23:0<(t108.length:Int)
        ·rw [if_pos c23] at H;have c23b0:decide (0<(t108.length:Int))=true:=decide_eq_true c23;have c23b1:decide (0<t108.length)=true:=decide_eq_true (by omega);clear c23;obtain ⟨y126,hy126⟩:∃ y_:List Int,y_=(t108.set (0:Int).toNat t123):=⟨_,rfl⟩;replace H:(some (t102,x7_13,y126))=some (r1,r2,r3):=by first|(rw [hy126];with_reducible exact H)|(have H2_:=(Option.bind_some _ _).symm.trans H;rw [hy126];with_reducible exact H2_)|(have H2_:=(Option.bind_some _ _).symm.trans H;with_reducible exact H2_)|with_reducible exact H|(rw [hy126];exact H)|exact H
         have Ny126:=aM hy126;clear hy126;simp only [Option.some.injEq,Prod.mk.injEq] at H;obtain ⟨rfl,rfl,rfl⟩:=H;obtain ⟨Ao25,co25,eo25⟩:=Kd.R_slice HO_8.out;subst eo25;go_wp2_with (first|(go_at_call 120;(with_reducible refine (spec_l1Cur_one.calls gb101 l0 x102001_3 x102002_3 6 true t121 t122 w _ ?side1 ?side2 A20.out).mono ?_);(case side1=>repeat (first|(with_reducible first|exact HI101.out|apply IsS117.alloc|apply IsS117.drewN|apply IsS117.drew|apply IsS117.set_1|apply IsS117.set_2)|exact HI101.out));(case side2=>repeat (first|(with_reducible first|exact HB.out|apply Qb|apply Qa|apply Qc|refine Qg ?_ (IsS117.ge HI101.out))|exact HB.out));rintro e w26 ⟨rfl,hi,hb,hk⟩;have n0_:=aM (Kd.N_mono (Kd.N_keep (Kd.N_mono (ok:=fun k_=>(((w.heap.size≤k_))∧(some k_≠(u7:Value).ownBlock∧(some k_≠(.slice Ao25 t108.length co25:Value).ownBlock∧k_≠gb101)))) (by (with_reducible repeat (first|apply Kd.N_alloc|apply Kd.N_drewN|apply Kd.N_drew));exact HO_6.out) (fun k_ hk_=>(⟨hk_,hk_.2.2.2⟩:_∧k_≠gb101))) hk (fun _ h=>h.2)) (fun _ h=>h.1));have n1_:=aM (Kd.Q_mono (Kd.Q_keep (IsS117.apartQ (show IsS117 w _ gb101 l0 x102001_3 x102002_3 from by repeat (first|(with_reducible first|exact HI101.out|apply IsS117.alloc|apply IsS117.drewN|apply IsS117.drew|apply IsS117.set_1|apply IsS117.set_2)|exact HI101.out)) (by (with_reducible repeat (first|apply Kd.Q_alloc|apply Kd.Q_drewN|apply Kd.Q_drew));exact HO_7.out) (by decide)) hk (fun _ h=>h.2)) (fun _ h=>h.1));have n2_:=aM (Kd.R_mono (Kd.R_keep (IsS117.apart (show IsS117 w _ gb101 l0 x102001_3 x102002_3 from by repeat (first|(with_reducible first|exact HI101.out|apply IsS117.alloc|apply IsS117.drewN|apply IsS117.drew|apply IsS117.set_1|apply IsS117.set_2)|exact HI101.out)) (by (with_reducible repeat (first|apply Kd.Qd|apply Kd.Qe|apply Kd.R_drew));exact HO_8.out) (by decide)) hk (fun _ h=>h.2)) (fun _ h=>h.1));have n3_:=aM (hb);have n4_:=aM (hi);clear HO_6;clear HO_7;clear HO_8;clear HB;clear HI101;have HO_6:=n0_;have HO_7:=n1_;have HO_8:=n2_;have HB:=n3_;have HI101:=n4_;clear n0_ n1_ n2_ n3_ n4_;(try clear hb);(try clear hb2);(try clear hk);(try clear hi))|((with_reducible refine Qh (f:=122) rfl ?_);refine goesL_ (some 39) rfl rfl Try.func122 (by kernel_rfl) rfl #[.pointer (some ⟨gb101,0,none⟩),.int .i64 9] rfl (by (try simp only [aD,aE,aF]);first|done|rfl|(simp only [aG,aH];rfl)) ?_;(with_reducible refine (spec_l1Cur_pick.calls gb101 l0 t121 t122 9 t123 t124 t125 w _ ?side1 ?side2 A22.out).mono ?_);(case side1=>repeat (first|(with_reducible first|exact HI101.out|apply IsS117.alloc|apply IsS117.drewN|apply IsS117.drew|apply IsS117.set_1|apply IsS117.set_2)|exact HI101.out));(case side2=>repeat (first|(with_reducible first|exact HB.out|apply Qb|apply Qa|apply Qc|refine Qg ?_ (IsS117.ge HI101.out))|exact HB.out));rintro e w27 ⟨rfl,hi,hb,hk⟩;refine ⟨_,rfl,?_⟩;have n0_:=aM (Kd.N_mono (Kd.N_keep (Kd.N_mono (ok:=fun k_=>(((w.heap.size≤k_))∧(some k_≠(u7:Value).ownBlock∧(some k_≠(.slice Ao25 t108.length co25:Value).ownBlock∧k_≠gb101)))) (by (with_reducible repeat (first|apply Kd.N_alloc|apply Kd.N_drewN|apply Kd.N_drew));exact HO_6.out) (fun k_ hk_=>(⟨hk_,hk_.2.2.2⟩:_∧k_≠gb101))) hk (fun _ h=>h.2)) (fun _ h=>h.1));have n1_:=aM (Kd.Q_mono (Kd.Q_keep (IsS117.apartQ (show IsS117 w _ gb101 l0 t121 t122 from by repeat (first|(with_reducible first|exact HI101.out|apply IsS117.alloc|apply IsS117.drewN|apply IsS117.drew|apply IsS117.set_1|apply IsS117.set_2)|exact HI101.out)) (by (with_reducible repeat (first|apply Kd.Q_alloc|apply Kd.Q_drewN|apply Kd.Q_drew));exact HO_7.out) (by decide)) hk (fun _ h=>h.2)) (fun _ h=>h.1));have n2_:=aM (Kd.R_mono (Kd.R_keep (IsS117.apart (show IsS117 w _ gb101 l0 t121 t122 from by repeat (first|(with_reducible first|exact HI101.out|apply IsS117.alloc|apply IsS117.drewN|apply IsS117.drew|apply IsS117.set_1|apply IsS117.set_2)|exact HI101.out)) (by (with_reducible repeat (first|apply Kd.Qd|apply Kd.Qe|apply Kd.R_drew));exact HO_8.out) (by decide)) hk (fun _ h=>h.2)) (fun _ h=>h.1));have n3_:=aM (hb);have n4_:=aM (hi);clear HO_6;clear HO_7;clear HO_8;clear HB;clear HI101;have HO_6:=n0_;have HO_7:=n1_;have HO_8:=n2_;have HB:=n3_;have HI101:=n4_;clear n0_ n1_ n2_ n3_ n4_;(try clear hb);(try clear hb2);(try clear hk);(try clear hi);have p24:0≤(0:Int):=(by omega);have q24:(0:Int)<((t108.length:Int):Int):=of_decide_eq_true (by first|(with_reducible assumption)|assumption);have qi24:(0<t108.length)=True:=eq_true (by omega);obtain ⟨go24,co24,eo24,gb24,gl24,cl24,HG24⟩:=Kd.R_form HO_8.out (by omega);(first|cases eo24|(injection eo24 with ea_ en_ ec_;(first|subst ea_|(injection ea_ with ea_;subst ea_));subst ec_;clear en_));have GB24:=aM gb24;have GG24:=aM HG24;clear gb24 gl24 HG24;obtain ⟨hx24_0,hf24_0⟩:=Kd.R_celln 0 HO_8.out (0:Int) p24 q24;(try rw [show ((0:Int)).toNat=0 from rfl] at hx24_0);(try simp only [Nat.reduceMul,Nat.zero_mul,Nat.zero_add,Nat.reduceAdd] at hx24_0);(try rw [show ((0:Int)).toNat=0 from rfl] at hf24_0);(try simp only [Nat.reduceMul,Nat.zero_mul,Nat.zero_add,Nat.reduceAdd] at hf24_0);replace p24:=eq_true p24;replace q24:=eq_true q24;obtain ⟨hy28_,hz28_⟩:=Kd.R_celln 0 HO_8.out (0:Int) (by omega) (of_decide_eq_true (by first|(with_reducible assumption)|assumption));(try simp only [Int.reduceToNat,Int.toNat_zero,Int.toNat_ofNat,Nat.reduceMul,Nat.zero_mul,Nat.zero_add] at hy28_ hz28_);(try rw [show ((0:Int)).toNat=0 from rfl] at hy28_);(try rw [show ((0:Int)).toNat=0 from rfl] at hz28_);have HP28:=Kd.R_putg HO_8.out (0:Int) t123)|((with_reducible refine gate_store (t:=3) (p:=40) rfl ?_);refine store_event (t:=3) (p:=40) (v:=?vo_w29) (w1:=(w27.setCell ⟨go24,(0:Int).toNat,none⟩ (.int .i64 t123))) ?hg ?ho ?hn ?hr ?_;(case ho=>rfl);(case hg=>rfl);(case hn=>rfl);(case hr=>first|(go_simp;done)|(go_simp;rfl));intro w29 hw;have hg:w27.grownBy w29 (some go24):=(by rw [hw];exact HP28.2);have hp_:Kd.R (Kd.int .i64) 3 w29 w.heap.size (fun k_=>(w.heap.size≤k_)∧some k_≠(u7:Value).ownBlock) (.slice (some ⟨go24,0,none⟩) t108.length co25) y126:=(by rw [hw,Ny126.out];exact HP28.1);clear HP28;have n0_:=aM (Kd.N_afterv (v:=(.slice (some ⟨go24,0,none⟩) t108.length co25)) (v1:=(.slice (some ⟨go24,0,none⟩) t108.length co25)) (ok:=(fun k_=>(w.heap.size≤k_)∧some k_≠(u7:Value).ownBlock∧k_≠gb101)) (by (with_reducible repeat (first|apply Kd.N_alloc|apply Kd.N_drewN|apply Kd.N_drew));exact Kd.N_mono HO_6.out (fun _ hk=>⟨⟨hk.1,⟨hk.2.1,hk.2.2.2⟩⟩,hk.2.2.1⟩)) hg (.inl rfl));have n1_:=aM (Kd.Q_after (v:=(.slice (some ⟨go24,0,none⟩) t108.length co25)) (v1:=(.slice (some ⟨go24,0,none⟩) t108.length co25)) (ok:=(fun k_=>(w.heap.size≤k_))) (by (with_reducible repeat (first|apply Kd.Q_alloc|apply Kd.Q_drewN|apply Kd.Q_drew));exact HO_7.out) hg (.inl rfl));have n2_:=aM (hp_);have n3_:=aM (IsS117.grown (by repeat (first|(with_reducible first|exact HI101.out|apply IsS117.alloc|apply IsS117.drewN|apply IsS117.drew|apply IsS117.set_1|apply IsS117.set_2)|exact HI101.out)) hg (IsS117.own_ne HI101.out HO_8.out (by decide)));have n4_:=aM ((by rw [hw];exact Qg (HB.out) GB24.out:Below w.heap.size w w29));clear HO_6;clear HO_7;clear HO_8;clear HI101;clear HB;have HO_6:=n0_;have HO_7:=n1_;have HO_8:=n2_;have HI101:=n3_;have HB:=n4_;clear n0_ n1_ n2_ n3_ n4_;clear hg hw hp_))
         go_ret3
         exact ⟨_,_,_,by first|rfl|(simp [errW_none,errW_some] <;> rfl)|(simp [*,errW_none,errW_some] <;> rfl),by (with_reducible repeat (first|apply Kd.N_alloc|apply Kd.N_drewN|apply Kd.N_drew));exact Kd.N_mono HO_6.out (fun _ hk=>⟨hk.1.1,⟨hk.1.2.1,hk.2⟩⟩),by (with_reducible repeat (first|apply Kd.Q_alloc|apply Kd.Q_drewN|apply Kd.Q_drew));exact HO_7.out,by (with_reducible repeat (first|apply Kd.Qd|apply Kd.Qe|apply Kd.R_drew));exact HO_8.out,by repeat (first|(with_reducible first|exact HB.out|apply Qb|apply Qa|apply Qc|refine Qg ?_ (IsS117.ge HI101.out))|exact HB.out)⟩
        ·rw [if_neg c23] at H;exact absurd H (by simp)
       ·replace c21:=Bool.eq_false_iff.mpr c21;subst c21;have H1:(some (t102,x7_13,t108))=some (r1,r2,r3):=by rw [if_neg (show ¬ (false=true) by decide)] at H;exact H
        clear H;have H:=H1;clear H1;simp only [Option.some.injEq,Prod.mk.injEq] at H;obtain ⟨rfl,rfl,rfl⟩:=H;obtain ⟨Ao30,co30,eo30⟩:=Kd.R_slice HO_8.out;subst eo30;go_wp2_with (first|(go_at_call 120;(with_reducible refine (spec_l1Cur_one.calls gb101 l0 x102001_3 x102002_3 6 false t121 t122 w _ ?side1 ?side2 A20.out).mono ?_);(case side1=>repeat (first|(with_reducible first|exact HI101.out|apply IsS117.alloc|apply IsS117.drewN|apply IsS117.drew|apply IsS117.set_1|apply IsS117.set_2)|exact HI101.out));(case side2=>repeat (first|(with_reducible first|exact HB.out|apply Qb|apply Qa|apply Qc|refine Qg ?_ (IsS117.ge HI101.out))|exact HB.out));rintro e w31 ⟨rfl,hi,hb,hk⟩;have n0_:=aM (Kd.N_mono (Kd.N_keep (Kd.N_mono (ok:=fun k_=>(((w.heap.size≤k_))∧(some k_≠(u7:Value).ownBlock∧(some k_≠(.slice Ao30 t108.length co30:Value).ownBlock∧k_≠gb101)))) (by (with_reducible repeat (first|apply Kd.N_alloc|apply Kd.N_drewN|apply Kd.N_drew));exact HO_6.out) (fun k_ hk_=>(⟨hk_,hk_.2.2.2⟩:_∧k_≠gb101))) hk (fun _ h=>h.2)) (fun _ h=>h.1));have n1_:=aM (Kd.Q_mono (Kd.Q_keep (IsS117.apartQ (show IsS117 w _ gb101 l0 x102001_3 x102002_3 from by repeat (first|(with_reducible first|exact HI101.out|apply IsS117.alloc|apply IsS117.drewN|apply IsS117.drew|apply IsS117.set_1|apply IsS117.set_2)|exact HI101.out)) (by (with_reducible repeat (first|apply Kd.Q_alloc|apply Kd.Q_drewN|apply Kd.Q_drew));exact HO_7.out) (by decide)) hk (fun _ h=>h.2)) (fun _ h=>h.1));have n2_:=aM (Kd.R_mono (Kd.R_keep (IsS117.apart (show IsS117 w _ gb101 l0 x102001_3 x102002_3 from by repeat (first|(with_reducible first|exact HI101.out|apply IsS117.alloc|apply IsS117.drewN|apply IsS117.drew|apply IsS117.set_1|apply IsS117.set_2)|exact HI101.out)) (by (with_reducible repeat (first|apply Kd.Qd|apply Kd.Qe|apply Kd.R_drew));exact HO_8.out) (by decide)) hk (fun _ h=>h.2)) (fun _ h=>h.1));have n3_:=aM (hb);have n4_:=aM (hi);clear HO_6;clear HO_7;clear HO_8;clear HB;clear HI101;have HO_6:=n0_;have HO_7:=n1_;have HO_8:=n2_;have HB:=n3_;have HI101:=n4_;clear n0_ n1_ n2_ n3_ n4_;(try clear hb);(try clear hb2);(try clear hk);(try clear hi)))
        go_ret3
        exact ⟨_,_,_,by first|rfl|(simp [errW_none,errW_some] <;> rfl)|(simp [*,errW_none,errW_some] <;> rfl),by (with_reducible repeat (first|apply Kd.N_alloc|apply Kd.N_drewN|apply Kd.N_drew));exact Kd.N_mono HO_6.out (fun _ hk=>⟨hk.1,⟨hk.2.1,hk.2.2.1⟩⟩),by (with_reducible repeat (first|apply Kd.Q_alloc|apply Kd.Q_drewN|apply Kd.Q_drew));exact HO_7.out,by (with_reducible repeat (first|apply Kd.Qd|apply Kd.Qe|apply Kd.R_drew));exact HO_8.out,by repeat (first|(with_reducible first|exact HB.out|apply Qb|apply Qa|apply Qc|refine Qg ?_ (IsS117.ge HI101.out))|exact HB.out)⟩
      ·rw [if_neg c19] at H;have c19b0:decide (0<(t108.length:Int))=false:=decide_eq_false c19;have c19b1:decide (0<t108.length)=false:=decide_eq_false (by omega);clear c19;simp only [Option.some.injEq,Prod.mk.injEq] at H;obtain ⟨rfl,rfl,rfl⟩:=H;obtain ⟨Ao32,co32,eo32⟩:=Kd.R_slice HO_8.out;subst eo32;go_wp2
       go_ret3
       exact ⟨_,_,_,by first|rfl|(simp [errW_none,errW_some] <;> rfl)|(simp [*,errW_none,errW_some] <;> rfl),by (with_reducible repeat (first|apply Kd.N_alloc|apply Kd.N_drewN|apply Kd.N_drew));exact Kd.N_mono HO_6.out (fun _ hk=>⟨hk.1,⟨hk.2.1,hk.2.2.1⟩⟩),by (with_reducible repeat (first|apply Kd.Q_alloc|apply Kd.Q_drewN|apply Kd.Q_drew));exact HO_7.out,by (with_reducible repeat (first|apply Kd.Qd|apply Kd.Qe|apply Kd.R_drew));exact HO_8.out,by repeat (first|(with_reducible first|exact HB.out|apply Qb|apply Qa|apply Qc|refine Qg ?_ (IsS117.ge HI101.out))|exact HB.out)⟩

def spec_l8Rising.l0:Nat→List Int→Int→List Int→Int→Int→Option (Bool)
  |0,_,_,_,_,_=>none
  |k+1,x0,x1,x7,x8,x9=>if x9<x8 then (if 0≤x9 then (if x9<(x7.length:Int) then (if (rd x7 x9)<0 then (some false) else (if (rd x7 x9) ≥ x1 then (some false) else (if x9 > 0 then (if 0≤(wrap64 (x9 - 1)) then (if (wrap64 (x9 - 1))<(x0.length:Int) then (if (rd x0 (wrap64 (x9 - 1))) ≥ (rd x7 x9) then (some false) else (spec_l8Rising.l0 k x0 x1 x7 x8 (wrap64 (x9+1)))) else (none)) else (none)) else (spec_l8Rising.l0 k x0 x1 x7 x8 (wrap64 (x9+1)))))) else (none)) else (none)) else (some true)
def spec_l8Rising.f (k:Nat) (l0:List Int) (a1:Int):Option (Bool):=spec_l8Rising.l0 k l0 a1 l0 (l0.length:Int) 0
set_option maxHeartbeats 8000000 in
set_option maxRecDepth 100000 in
theorem spec_l8Rising.calls (k:Nat) (A0:Option Addr) (c0:Nat) (l0:List Int) (a1:Int) (r:Bool) (w:World) (hr0:Kd.C (Kd.int .i64) w A0 l0.length l0) (hc0:l0.length≤c0) (h:spec_l8Rising.f k l0 a1=some r) :
    Calls Try.prog 170 #[.slice A0 l0.length c0,.int .i64 a1] w fun e w'=>e= .returned (.bool r)∧Drawn0 w w':=by
  have HR0:=aM hr0;have HC0:=aM hc0;clear hr0 hc0;have H:(spec_l8Rising.l0 k l0 a1 l0 (l0.length:Int) 0)=some r:=h;clear h;have H':=aM H;clear H;go_enter Try.func170,Try.ntmps170;go_wp2;go_loopg [9] k (fun kq v9 w'=>∃ (x9_1:Int),v9= .int .i64 x9_1∧Aside0 (spec_l8Rising.l0 kq l0 a1 l0 (l0.length:Int) x9_1=some r)∧Aside0 (kq≤k)∧Drawn0 w w')
  case atStart=>exact ⟨(0),(by first|rfl|(simp;done)|(simp [*];done)),H',⟨Nat.le_refl _⟩,by repeat (first|exact Drawn0.refl _|apply Drawn0.step)⟩
  case round=>
   clear H';(try clear c1);(try clear p2);obtain ⟨x9_1,rfl,HA,HK1,⟨m1,rfl⟩⟩:=hrel
   cases gk with
   |zero=>exact absurd HA.out (by simp [spec_l8Rising.l0])
   |succ k1=>
    have H:=HA.out;clear HA;simp only [spec_l8Rising.l0] at H;by_cases c3:x9_1<(l0.length:Int)
    ·rw [if_pos c3] at H;have c3b0:decide (x9_1<(l0.length:Int))=true:=decide_eq_true c3;clear c3;by_cases c4:0≤x9_1
     ·rw [if_pos c4] at H;have c4b0:decide (0≤x9_1)=true:=decide_eq_true c4;clear c4;by_cases c5:x9_1<(l0.length:Int)
      ·rw [if_pos c5] at H;have c5b0:decide (x9_1<(l0.length:Int))=true:=decide_eq_true c5;clear c5;by_cases c6:(rd l0 x9_1)<0
       ·rw [if_pos c6] at H;have c6b0:decide ((rd l0 x9_1)<0)=true:=decide_eq_true c6;clear c6;obtain rfl:=Option.some.inj H;have p101:0≤(x9_1:Int):=of_decide_eq_true (by first|(with_reducible assumption)|assumption);have q101:x9_1<(l0.length:Int):=of_decide_eq_true (by first|(with_reducible assumption)|assumption);obtain ⟨ad101,e101,hx101_0⟩:=Kd.at_int HR0.out x9_1 p101 q101
        cases e101
        replace p101:=eq_true p101;replace q101:=eq_true q101;go_wp2
        go_ret
        exact ⟨by first|rfl|(simp;done)|(simp [*];done),by repeat (first|exact Drawn0.refl _|apply Drawn0.step)⟩
       ·rw [if_neg c6] at H;have c6b0:decide ((rd l0 x9_1)<0)=false:=decide_eq_false c6;clear c6;by_cases c7:(rd l0 x9_1) ≥ a1
        ·rw [if_pos c7] at H;have c7b0:decide (a1≤(rd l0 x9_1))=true:=decide_eq_true c7;clear c7;obtain rfl:=Option.some.inj H;have p101:0≤(x9_1:Int):=of_decide_eq_true (by first|(with_reducible assumption)|assumption);have q101:x9_1<(l0.length:Int):=of_decide_eq_true (by first|(with_reducible assumption)|assumption);obtain ⟨ad101,e101,hx101_0⟩:=Kd.at_int HR0.out x9_1 p101 q101
         cases e101
         replace p101:=eq_true p101;replace q101:=eq_true q101;go_wp2
         go_ret
         exact ⟨by first|rfl|(simp;done)|(simp [*];done),by repeat (first|exact Drawn0.refl _|apply Drawn0.step)⟩
        ·rw [if_neg c7] at H;have c7b0:decide (a1≤(rd l0 x9_1))=false:=decide_eq_false c7;clear c7;by_cases c8:x9_1 > 0
         ·rw [if_pos c8] at H;have c8b0:decide (0<x9_1)=true:=decide_eq_true c8;clear c8;obtain ⟨ji9,hji9⟩:∃ j_:Int,(wrap64 (x9_1 - 1))=j_:=⟨_,rfl⟩;replace H:(if 0≤(ji9) then (if (ji9)<(l0.length:Int) then (if (rd l0 (ji9)) ≥ (rd l0 x9_1) then (some false) else (spec_l8Rising.l0 k1 l0 a1 l0 (l0.length:Int) (wrap64 (x9_1+1)))) else (none)) else (none))=some r:=by first|(rw [hji9] at H;exact H)|(simp only [hji9] at H ⊢;exact H)
          have hji9w:(IntKind.i64.wrap (x9_1 - 1))=ji9:=(i64_w _).trans hji9;by_cases c10:0≤(ji9)
          ·rw [if_pos c10] at H;have c10b0:decide (0≤(ji9))=true:=decide_eq_true c10;clear c10;by_cases c11:(ji9)<(l0.length:Int)
           ·rw [if_pos c11] at H;have c11b0:decide ((ji9)<(l0.length:Int))=true:=decide_eq_true c11;clear c11;by_cases c12:(rd l0 (ji9)) ≥ (rd l0 x9_1)
            ·rw [if_pos c12] at H;have c12b0:decide ((rd l0 x9_1)≤(rd l0 (ji9)))=true:=decide_eq_true c12;clear c12;obtain rfl:=Option.some.inj H;have p101:0≤(x9_1:Int):=of_decide_eq_true (by first|(with_reducible assumption)|assumption);have q101:x9_1<(l0.length:Int):=of_decide_eq_true (by first|(with_reducible assumption)|assumption);obtain ⟨ad101,e101,hx101_0⟩:=Kd.at_int HR0.out x9_1 p101 q101
             cases e101
             replace p101:=eq_true p101;replace q101:=eq_true q101;have p102:0≤((ji9):Int):=of_decide_eq_true (by first|(with_reducible assumption)|assumption);have q102:(ji9)<(l0.length:Int):=of_decide_eq_true (by first|(with_reducible assumption)|assumption);obtain ⟨ad102,e102,hx102_0⟩:=Kd.at_int HR0.out (ji9) p102 q102;obtain rfl:ad101=ad102:=(by injection e102);replace p102:=eq_true p102;replace q102:=eq_true q102;go_wp2
             go_ret
             exact ⟨by first|rfl|(simp;done)|(simp only [←hji9] <;> (first|rfl|simp))|(simp [*];done),by repeat (first|exact Drawn0.refl _|apply Drawn0.step)⟩
            ·rw [if_neg c12] at H;have c12b0:decide ((rd l0 x9_1)≤(rd l0 (ji9)))=false:=decide_eq_false c12;clear c12;have H':=aM H;clear H;have p101:0≤(x9_1:Int):=of_decide_eq_true (by first|(with_reducible assumption)|assumption);have q101:x9_1<(l0.length:Int):=of_decide_eq_true (by first|(with_reducible assumption)|assumption);obtain ⟨ad101,e101,hx101_0⟩:=Kd.at_int HR0.out x9_1 p101 q101
             cases e101
             replace p101:=eq_true p101;replace q101:=eq_true q101;have p102:0≤((ji9):Int):=of_decide_eq_true (by first|(with_reducible assumption)|assumption);have q102:(ji9)<(l0.length:Int):=of_decide_eq_true (by first|(with_reducible assumption)|assumption);obtain ⟨ad102,e102,hx102_0⟩:=Kd.at_int HR0.out (ji9) p102 q102;obtain rfl:ad101=ad102:=(by injection e102);replace p102:=eq_true p102;replace q102:=eq_true q102;go_wp2;go_roundg k1
             case measure=>have:=HK1.out;omega
             case rel=>exact ⟨(wrap64 (x9_1+1)),(by first|rfl|(simp;done)|(simp [*];done)),H',⟨by have:=HK1.out;omega⟩,by repeat (first|exact Drawn0.refl _|apply Drawn0.step)⟩
           ·rw [if_neg c11] at H;exact absurd H (by simp)
          ·rw [if_neg c10] at H;exact absurd H (by simp)
         ·rw [if_neg c8] at H;have c8b0:decide (0<x9_1)=false:=decide_eq_false c8;clear c8;have H':=aM H;clear H;have p101:0≤(x9_1:Int):=of_decide_eq_true (by first|(with_reducible assumption)|assumption);have q101:x9_1<(l0.length:Int):=of_decide_eq_true (by first|(with_reducible assumption)|assumption);obtain ⟨ad101,e101,hx101_0⟩:=Kd.at_int HR0.out x9_1 p101 q101
          cases e101
          replace p101:=eq_true p101;replace q101:=eq_true q101;go_wp2;go_roundg k1
          case measure=>have:=HK1.out;omega
          case rel=>exact ⟨(wrap64 (x9_1+1)),(by first|rfl|(simp;done)|(simp [*];done)),H',⟨by have:=HK1.out;omega⟩,by repeat (first|exact Drawn0.refl _|apply Drawn0.step)⟩
      ·rw [if_neg c5] at H;exact absurd H (by simp)
     ·rw [if_neg c4] at H;exact absurd H (by simp)
    ·rw [if_neg c3] at H;have c3b0:decide (x9_1<(l0.length:Int))=false:=decide_eq_false c3;clear c3;obtain rfl:=Option.some.inj H;go_wp2
     go_ret
     exact ⟨by first|rfl|(simp;done)|(simp [*];done),by repeat (first|exact Drawn0.refl _|apply Drawn0.step)⟩

def spec_l1Has.l0:Nat→Int→List Int→Int→Int→Option (Bool)
  |0,_,_,_,_=>none
  |k+1,x1,x7,x8,x9=>if x9<x8 then (if 0≤x9 then (if x9<(x7.length:Int) then (if (rd x7 x9)=x1 then (some true) else (spec_l1Has.l0 k x1 x7 x8 (wrap64 (x9+1)))) else (none)) else (none)) else (some false)
def spec_l1Has.f (k:Nat) (l0:List Int) (a1:Int):Option (Bool):=spec_l1Has.l0 k a1 l0 (l0.length:Int) 0
set_option maxHeartbeats 8000000 in
set_option maxRecDepth 100000 in
theorem spec_l1Has.calls (k:Nat) (A0:Option Addr) (c0:Nat) (l0:List Int) (a1:Int) (r:Bool) (w:World) (hr0:Kd.C (Kd.int .i64) w A0 l0.length l0) (hc0:l0.length≤c0) (h:spec_l1Has.f k l0 a1=some r) :
    Calls Try.prog 172 #[.slice A0 l0.length c0,.int .i64 a1] w fun e w'=>e= .returned (.bool r)∧Drawn0 w w':=by
  have HR0:=aM hr0;have HC0:=aM hc0;clear hr0 hc0;have H:(spec_l1Has.l0 k a1 l0 (l0.length:Int) 0)=some r:=h;clear h;have H':=aM H;clear H;go_enter Try.func172,Try.ntmps172;go_wp2;go_loopg [9] k (fun kq v9 w'=>∃ (x9_1:Int),v9= .int .i64 x9_1∧Aside0 (spec_l1Has.l0 kq a1 l0 (l0.length:Int) x9_1=some r)∧Aside0 (kq≤k)∧Drawn0 w w')
  case atStart=>exact ⟨(0),(by first|rfl|(simp;done)|(simp [*];done)),H',⟨Nat.le_refl _⟩,by repeat (first|exact Drawn0.refl _|apply Drawn0.step)⟩
  case round=>
   clear H';(try clear c1);(try clear p2);obtain ⟨x9_1,rfl,HA,HK1,⟨m1,rfl⟩⟩:=hrel
   cases gk with
   |zero=>exact absurd HA.out (by simp [spec_l1Has.l0])
   |succ k1=>
    have H:=HA.out;clear HA;simp only [spec_l1Has.l0] at H;by_cases c3:x9_1<(l0.length:Int)
    ·rw [if_pos c3] at H;have c3b0:decide (x9_1<(l0.length:Int))=true:=decide_eq_true c3;clear c3;by_cases c4:0≤x9_1
     ·rw [if_pos c4] at H;have c4b0:decide (0≤x9_1)=true:=decide_eq_true c4;clear c4;by_cases c5:x9_1<(l0.length:Int)
      ·rw [if_pos c5] at H;have c5b0:decide (x9_1<(l0.length:Int))=true:=decide_eq_true c5;clear c5;by_cases c6:(rd l0 x9_1)=a1
       ·rw [if_pos c6] at H;have c6b0:((rd l0 x9_1) == a1)=true:=beq_iff_eq.mpr c6;have c6b1:((rd l0 x9_1) != a1)=false:=bne_eq_false_iff_eq.mpr c6;clear c6;obtain rfl:=Option.some.inj H;have p101:0≤(x9_1:Int):=of_decide_eq_true (by first|(with_reducible assumption)|assumption);have q101:x9_1<(l0.length:Int):=of_decide_eq_true (by first|(with_reducible assumption)|assumption);obtain ⟨ad101,e101,hx101_0⟩:=Kd.at_int HR0.out x9_1 p101 q101
        cases e101
        replace p101:=eq_true p101;replace q101:=eq_true q101;go_wp2
        go_ret
        exact ⟨by first|rfl|(simp;done)|(simp [*];done),by repeat (first|exact Drawn0.refl _|apply Drawn0.step)⟩
       ·rw [if_neg c6] at H;have c6b0:((rd l0 x9_1) == a1)=false:=beq_eq_false_iff_ne.mpr c6;have c6b1:((rd l0 x9_1) != a1)=true:=bne_iff_ne.mpr c6;have H':=aM H;clear H;have p101:0≤(x9_1:Int):=of_decide_eq_true (by first|(with_reducible assumption)|assumption);have q101:x9_1<(l0.length:Int):=of_decide_eq_true (by first|(with_reducible assumption)|assumption);obtain ⟨ad101,e101,hx101_0⟩:=Kd.at_int HR0.out x9_1 p101 q101
        cases e101
        replace p101:=eq_true p101;replace q101:=eq_true q101;go_wp2;go_roundg k1
        case measure=>have:=HK1.out;omega
        case rel=>exact ⟨(wrap64 (x9_1+1)),(by first|rfl|(simp;done)|(simp [*];done)),H',⟨by have:=HK1.out;omega⟩,by repeat (first|exact Drawn0.refl _|apply Drawn0.step)⟩
      ·rw [if_neg c5] at H;exact absurd H (by simp)
     ·rw [if_neg c4] at H;exact absurd H (by simp)
    ·rw [if_neg c3] at H;have c3b0:decide (x9_1<(l0.length:Int))=false:=decide_eq_false c3;clear c3;obtain rfl:=Option.some.inj H;go_wp2
     go_ret
     exact ⟨by first|rfl|(simp;done)|(simp [*];done),by repeat (first|exact Drawn0.refl _|apply Drawn0.step)⟩

mutual
def spec_IsCover.j0:Nat→List (List Bool)→List Int→List Int→Bool→Option (Bool×Bool)
  |0,_,_,_,_=>none
  |k+1,x0,x1,x2,x28=>if x28=true then (some (false,false)) else (spec_IsCover.l0 k x1 x2 x0 (x0.length:Int) 0)
def spec_IsCover.l0:Nat→List Int→List Int→List (List Bool)→Int→Int→Option (Bool×Bool)
  |0,_,_,_,_,_=>none
  |k+1,x1,x2,x29,x30,x31=>if x31<x30 then (if 0≤x31 then (if x31<(x29.length:Int) then (spec_IsCover.l1 k x1 x2 x31 x29 x30 x31 (rd_L7 x29 x31) ((rd_L7 x29 x31).length:Int) 0) else (none)) else (none)) else (some (true,true))
def spec_IsCover.l1:Nat→List Int→List Int→Int→List (List Bool)→Int→Int→List Bool→Int→Int→Option (Bool×Bool)
  |0,_,_,_,_,_,_,_,_,_=>none
  |k+1,x1,x2,x8,x29,x30,x31,x36,x37,x38=>if x38<x37 then (if 0≤x38 then (if x38<(x36.length:Int) then (if rdOf false x36 x38=true then ((spec_l1Has.f k x1 x8).bind fun t107=>(if t107=true then (spec_IsCover.l1 k x1 x2 x8 x29 x30 x31 x36 x37 (wrap64 (x38+1))) else ((spec_l1Has.f k x2 x38).bind fun t108=>(if t108=true then (spec_IsCover.l1 k x1 x2 x8 x29 x30 x31 x36 x37 (wrap64 (x38+1))) else (some (false,true)))))) else (spec_IsCover.l1 k x1 x2 x8 x29 x30 x31 x36 x37 (wrap64 (x38+1)))) else (none)) else (none)) else (spec_IsCover.l0 k x1 x2 x29 x30 (wrap64 (x31+1)))
end
def spec_IsCover.f (k:Nat) (l0:List (List Bool)) (l1:List Int) (l2:List Int):Option (Bool×Bool):=(spec_GoodFits.f k l0).bind fun t101=>(if t101=true then ((spec_l8Rising.f k l1 (l0.length:Int)).bind fun t102=>(if t102=true then ((spec_l8Bins.f l0).bind fun t103=>((spec_l8Rising.f k l2 t103).bind fun t104=>(spec_IsCover.j0 k l0 l1 l2 (!t104)))) else (spec_IsCover.j0 k l0 l1 l2 true))) else (spec_IsCover.j0 k l0 l1 l2 true))
set_option maxHeartbeats 8000000 in
set_option maxRecDepth 100000 in
theorem spec_IsCover.calls (k:Nat) (A0:Option Addr) (c0:Nat) (l0:List (List Bool)) (A1:Option Addr) (c1:Nat) (l1:List Int) (A2:Option Addr) (c2:Nat) (l2:List Int) (r1:Bool) (r2:Bool) (w:World) (hr0:Kd.C (Kd.slice 4 Kd.bool) w A0 l0.length l0) (hc0:l0.length≤c0) (hr1:Kd.C (Kd.int .i64) w A1 l1.length l1) (hc1:l1.length≤c1) (hr2:Kd.C (Kd.int .i64) w A2 l2.length l2) (hc2:l2.length≤c2) (h:spec_IsCover.f k l0 l1 l2=some (r1,r2)) :
    Calls Try.prog 78 #[.slice A0 l0.length c0,.slice A1 l1.length c1,.slice A2 l2.length c2] w fun e w'=>e= .returned (.tuple #[.bool r1,.bool r2])∧Drawn0 w w':=by
  have HR0:=aM hr0;have HC0:=aM hc0;clear hr0 hc0;have HR1:=aM hr1;have HC1:=aM hc1;clear hr1 hc1;have HR2:=aM hr2;have HC2:=aM hc2;clear hr2 hc2;have H:((spec_GoodFits.f k l0).bind fun t101=>(if t101=true then ((spec_l8Rising.f k l1 (l0.length:Int)).bind fun t102=>(if t102=true then ((spec_l8Bins.f l0).bind fun t103=>((spec_l8Rising.f k l2 t103).bind fun t104=>(spec_IsCover.j0 k l0 l1 l2 (!t104)))) else (spec_IsCover.j0 k l0 l1 l2 true))) else (spec_IsCover.j0 k l0 l1 l2 true)))=some (r1,r2):=h;clear h;have HC4:=aM H;clear H;go_enter Try.func78,Try.ntmps78
  go_upto_region 1 with (fail)
  go_cut [28] (fun v28 wc=>∃ (kq:Nat) (x28_3:Bool),v28= .bool x28_3∧Aside0 (spec_IsCover.j0 kq l0 l1 l2 x28_3=some (r1,r2))∧Aside0 (kq≤k)∧Drawn0 w wc)
  case first=>
   have H:=HC4.out;clear HC4;replace H:=Option.bind_eq_some_iff.mp H;obtain ⟨t101,A50,H⟩:=H;replace H:(if t101=true then ((spec_l8Rising.f k l1 (l0.length:Int)).bind fun t102=>(if t102=true then ((spec_l8Bins.f l0).bind fun t103=>((spec_l8Rising.f k l2 t103).bind fun t104=>(spec_IsCover.j0 k l0 l1 l2 (!t104)))) else (spec_IsCover.j0 k l0 l1 l2 true))) else (spec_IsCover.j0 k l0 l1 l2 true))=some (r1,r2):=H;have A5:=aM A50;clear A50;by_cases c6:t101=true
   ·subst c6;have H1:((spec_l8Rising.f k l1 (l0.length:Int)).bind fun t102=>(if t102=true then ((spec_l8Bins.f l0).bind fun t103=>((spec_l8Rising.f k l2 t103).bind fun t104=>(spec_IsCover.j0 k l0 l1 l2 (!t104)))) else (spec_IsCover.j0 k l0 l1 l2 true)))=some (r1,r2):=by rw [if_pos rfl] at H;exact H
    clear H;have H:=H1;clear H1;replace H:=Option.bind_eq_some_iff.mp H;obtain ⟨t102,A70,H⟩:=H;replace H:(if t102=true then ((spec_l8Bins.f l0).bind fun t103=>((spec_l8Rising.f k l2 t103).bind fun t104=>(spec_IsCover.j0 k l0 l1 l2 (!t104)))) else (spec_IsCover.j0 k l0 l1 l2 true))=some (r1,r2):=H;have A7:=aM A70;clear A70;by_cases c8:t102=true
    ·subst c8;have H1:((spec_l8Bins.f l0).bind fun t103=>((spec_l8Rising.f k l2 t103).bind fun t104=>(spec_IsCover.j0 k l0 l1 l2 (!t104))))=some (r1,r2):=by rw [if_pos rfl] at H;exact H
     clear H;have H:=H1;clear H1;replace H:=Option.bind_eq_some_iff.mp H;obtain ⟨t103,A90,H⟩:=H;replace H:((spec_l8Rising.f k l2 t103).bind fun t104=>(spec_IsCover.j0 k l0 l1 l2 (!t104)))=some (r1,r2):=H;have A9:=aM A90;clear A90;replace H:=Option.bind_eq_some_iff.mp H;obtain ⟨t104,A100,H⟩:=H;replace H:(spec_IsCover.j0 k l0 l1 l2 (!t104))=some (r1,r2):=H;have A10:=aM A100;clear A100;have H':=aM H;clear H;go_wp2_with (first|((with_reducible refine Qh (f:=154) rfl ?_);refine goesL_ (some 13) rfl rfl Try.func154 (by kernel_rfl) rfl #[.slice A0 l0.length c0] rfl (by (try simp only [aD,aE,aF]);first|done|rfl|(simp only [aG,aH];rfl)) ?_;(with_reducible refine (spec_GoodFits.calls k _ _ l0 true _ ?side1 ?side2 A5.out).mono ?_);(case side1=>repeat (first|exact HR0.out|(with_reducible refine Kd.Qj ?_ _)|(with_reducible refine Kd.Qk ?_ _)|(with_reducible refine Kd.C_drew ?_)));(case side2=>exact HC0.out);rintro e w' ⟨rfl,⟨nd,rfl⟩⟩;refine ⟨_,rfl,?_⟩)|(go_at_call 170;(with_reducible refine (spec_l8Rising.calls k _ _ l1 (l0.length:Int) true _ ?side1 ?side2 A7.out).mono ?_);(case side1=>repeat (first|exact HR1.out|(with_reducible refine Kd.Qj ?_ _)|(with_reducible refine Kd.Qk ?_ _)|(with_reducible refine Kd.C_drew ?_)));(case side2=>exact HC1.out);rintro e w' ⟨rfl,⟨nd,rfl⟩⟩)|(go_at_call 171;(with_reducible refine (spec_l8Bins.calls _ _ l0 t103 _ ?side1 ?side2 A9.out).mono ?_);(case side1=>repeat (first|exact HR0.out|(with_reducible refine Kd.Qj ?_ _)|(with_reducible refine Kd.Qk ?_ _)|(with_reducible refine Kd.C_drew ?_)));(case side2=>exact HC0.out);rintro e w' ⟨rfl,⟨nd,rfl⟩⟩)|(go_at_call 170;(with_reducible refine (spec_l8Rising.calls k _ _ l2 t103 t104 _ ?side1 ?side2 A10.out).mono ?_);(case side1=>repeat (first|exact HR2.out|(with_reducible refine Kd.Qj ?_ _)|(with_reducible refine Kd.Qk ?_ _)|(with_reducible refine Kd.C_drew ?_)));(case side2=>exact HC2.out);rintro e w' ⟨rfl,⟨nd,rfl⟩⟩))
     go_meet
     case rel=>exact ⟨_,(!t104),(by first|rfl|(simp;done)|(simp [*];done)),H',⟨by first|omega|exact Nat.le_refl _⟩,by repeat (first|exact Drawn0.refl _|apply Drawn0.step)⟩
    ·replace c8:=Bool.eq_false_iff.mpr c8;subst c8;have H1:(spec_IsCover.j0 k l0 l1 l2 true)=some (r1,r2):=by rw [if_neg (show ¬ (false=true) by decide)] at H;exact H
     clear H;have H:=H1;clear H1;have H':=aM H;clear H;go_wp2_with (first|((with_reducible refine Qh (f:=154) rfl ?_);refine goesL_ (some 13) rfl rfl Try.func154 (by kernel_rfl) rfl #[.slice A0 l0.length c0] rfl (by (try simp only [aD,aE,aF]);first|done|rfl|(simp only [aG,aH];rfl)) ?_;(with_reducible refine (spec_GoodFits.calls k _ _ l0 true _ ?side1 ?side2 A5.out).mono ?_);(case side1=>repeat (first|exact HR0.out|(with_reducible refine Kd.Qj ?_ _)|(with_reducible refine Kd.Qk ?_ _)|(with_reducible refine Kd.C_drew ?_)));(case side2=>exact HC0.out);rintro e w' ⟨rfl,⟨nd,rfl⟩⟩;refine ⟨_,rfl,?_⟩)|(go_at_call 170;(with_reducible refine (spec_l8Rising.calls k _ _ l1 (l0.length:Int) false _ ?side1 ?side2 A7.out).mono ?_);(case side1=>repeat (first|exact HR1.out|(with_reducible refine Kd.Qj ?_ _)|(with_reducible refine Kd.Qk ?_ _)|(with_reducible refine Kd.C_drew ?_)));(case side2=>exact HC1.out);rintro e w' ⟨rfl,⟨nd,rfl⟩⟩))
     go_meet
     case rel=>exact ⟨_,(true),(by first|rfl|(simp;done)|(simp [*];done)),H',⟨by first|omega|exact Nat.le_refl _⟩,by repeat (first|exact Drawn0.refl _|apply Drawn0.step)⟩
   ·replace c6:=Bool.eq_false_iff.mpr c6;subst c6;have H1:(spec_IsCover.j0 k l0 l1 l2 true)=some (r1,r2):=by rw [if_neg (show ¬ (false=true) by decide)] at H;exact H
    clear H;have H:=H1;clear H1;have H':=aM H;clear H;go_wp2_with (first|((with_reducible refine Qh (f:=154) rfl ?_);refine goesL_ (some 13) rfl rfl Try.func154 (by kernel_rfl) rfl #[.slice A0 l0.length c0] rfl (by (try simp only [aD,aE,aF]);first|done|rfl|(simp only [aG,aH];rfl)) ?_;(with_reducible refine (spec_GoodFits.calls k _ _ l0 false _ ?side1 ?side2 A5.out).mono ?_);(case side1=>repeat (first|exact HR0.out|(with_reducible refine Kd.Qj ?_ _)|(with_reducible refine Kd.Qk ?_ _)|(with_reducible refine Kd.C_drew ?_)));(case side2=>exact HC0.out);rintro e w' ⟨rfl,⟨nd,rfl⟩⟩;refine ⟨_,rfl,?_⟩))
    go_meet
    case rel=>exact ⟨_,(true),(by first|rfl|(simp;done)|(simp [*];done)),H',⟨by first|omega|exact Nat.le_refl _⟩,by repeat (first|exact Drawn0.refl _|apply Drawn0.step)⟩
  case rest=>
   clear HC4;(try clear c1);(try clear c2);(try clear p2);(try clear c6);(try clear c7);(try clear c8);obtain ⟨kq,x28_3,rfl,HA,HJ3,⟨mc3,rfl⟩⟩:=hcut
   cases kq with
   |zero=>exact absurd HA.out (by simp [spec_IsCover.j0])
   |succ kj3=>
    have H:=HA.out;clear HA;simp only [spec_IsCover.j0] at H;by_cases c11:x28_3=true
    ·subst c11;have H1:(some (false,false))=some (r1,r2):=by rw [if_pos rfl] at H;exact H
     clear H;have H:=H1;clear H1;simp only [Option.some.injEq,Prod.mk.injEq] at H;obtain ⟨rfl,rfl⟩:=H;go_wp2
     go_ret2
     exact ⟨by first|rfl|(simp;done)|(simp [*];done),by repeat (first|exact Drawn0.refl _|apply Drawn0.step)⟩
    ·replace c11:=Bool.eq_false_iff.mpr c11;subst c11;have H1:(spec_IsCover.l0 kj3 l1 l2 l0 (l0.length:Int) 0)=some (r1,r2):=by rw [if_neg (show ¬ (false=true) by decide)] at H;exact H
     clear H;have H:=H1;clear H1;have H':=aM H;clear H;go_wp2;go_loopg [31] kj3 (fun kq v31 w'=>∃ (x31_2:Int),v31= .int .i64 x31_2∧Aside0 (spec_IsCover.l0 kq l1 l2 l0 (l0.length:Int) x31_2=some (r1,r2))∧Aside0 (kq≤kj3)∧Drawn0 w w')
     case atStart=>exact ⟨(0),(by first|rfl|(simp;done)|(simp [*];done)),H',⟨Nat.le_refl _⟩,by repeat (first|exact Drawn0.refl _|apply Drawn0.step)⟩
     case round=>
      clear H';(try clear c1);(try clear c2);(try clear p2);(try clear c3);(try clear c6);(try clear c7);(try clear c8);(try clear c11);(try clear p2);obtain ⟨x31_2,rfl,HA,HK2,⟨m2,rfl⟩⟩:=hrel
      cases gk with
      |zero=>exact absurd HA.out (by simp [spec_IsCover.l0])
      |succ k2=>
       have H:=HA.out;clear HA;simp only [spec_IsCover.l0] at H;by_cases c12:x31_2<(l0.length:Int)
       ·rw [if_pos c12] at H;have c12b0:decide (x31_2<(l0.length:Int))=true:=decide_eq_true c12;clear c12;by_cases c13:0≤x31_2
        ·rw [if_pos c13] at H;have c13b0:decide (0≤x31_2)=true:=decide_eq_true c13;clear c13;by_cases c14:x31_2<(l0.length:Int)
         ·rw [if_pos c14] at H;have c14b0:decide (x31_2<(l0.length:Int))=true:=decide_eq_true c14;clear c14;have H':=aM H;clear H;have p105:0≤(x31_2:Int):=of_decide_eq_true (by first|(with_reducible assumption)|assumption);have q105:x31_2<(l0.length:Int):=of_decide_eq_true (by first|(with_reducible assumption)|assumption);obtain ⟨ad105,A105_0,c105_0,e105,hx105_0,hl105_0,hi105_0⟩:=at_L7 HR0.out x31_2 p105 q105
          cases e105
          have HR105_0:=aM hi105_0;have HC105_0:=aM hl105_0;clear hi105_0 hl105_0;replace p105:=eq_true p105;replace q105:=eq_true q105;go_wp2;go_loopg [38] k2 (fun kq v38 w'=>∃ (x38_3:Int),v38= .int .i64 x38_3∧Aside0 (spec_IsCover.l1 kq l1 l2 x31_2 l0 (l0.length:Int) x31_2 (rd_L7 l0 x31_2) ((rd_L7 l0 x31_2).length:Int) x38_3=some (r1,r2))∧Aside0 (kq≤k2)∧Drawn0 w w')
          case atStart=>exact ⟨(0),(by first|rfl|(simp;done)|(simp [*];done)),H',⟨Nat.le_refl _⟩,by repeat (first|exact Drawn0.refl _|apply Drawn0.step)⟩
          case round=>
           clear H';(try clear c1);(try clear p1);(try clear q1);(try clear hx1);(try clear c2);(try clear p2);(try clear c3);(try clear c6);(try clear c7);(try clear c8);(try clear c10);(try clear p10);(try clear q10);(try clear hx10);(try clear c11);(try clear c12);(try clear c12b0);(try clear c13);(try clear c13b0);(try clear c14);(try clear c14b0);(try clear hx105_0);(try clear p105);(try clear p2);(try clear q105);obtain ⟨x38_3,rfl,HA,HK3,⟨m3,rfl⟩⟩:=hrel
           cases gk with
           |zero=>exact absurd HA.out (by simp [spec_IsCover.l1])
           |succ k3=>
            have H:=HA.out;clear HA;simp only [spec_IsCover.l1] at H;by_cases c15:x38_3<((rd_L7 l0 x31_2).length:Int)
            ·rw [if_pos c15] at H;have c15b0:decide (x38_3<((rd_L7 l0 x31_2).length:Int))=true:=decide_eq_true c15;clear c15;by_cases c16:0≤x38_3
             ·rw [if_pos c16] at H;have c16b0:decide (0≤x38_3)=true:=decide_eq_true c16;clear c16;by_cases c17:x38_3<((rd_L7 l0 x31_2).length:Int)
              ·rw [if_pos c17] at H;have c17b0:decide (x38_3<((rd_L7 l0 x31_2).length:Int))=true:=decide_eq_true c17;clear c17;obtain ⟨bq18,hbq18⟩:∃ b_:Bool,b_=(rdOf false (rd_L7 l0 x31_2) x38_3):=⟨_,rfl⟩;replace H:(if bq18=true then ((spec_l1Has.f k3 l1 x31_2).bind fun t107=>(if t107=true then (spec_IsCover.l1 k3 l1 l2 x31_2 l0 (l0.length:Int) x31_2 (rd_L7 l0 x31_2) ((rd_L7 l0 x31_2).length:Int) (wrap64 (x38_3+1))) else ((spec_l1Has.f k3 l2 x38_3).bind fun t108=>(if t108=true then (spec_IsCover.l1 k3 l1 l2 x31_2 l0 (l0.length:Int) x31_2 (rd_L7 l0 x31_2) ((rd_L7 l0 x31_2).length:Int) (wrap64 (x38_3+1))) else (some (false,true)))))) else (spec_IsCover.l1 k3 l1 l2 x31_2 l0 (l0.length:Int) x31_2 (rd_L7 l0 x31_2) ((rd_L7 l0 x31_2).length:Int) (wrap64 (x38_3+1))))=some (r1,r2):=by rw [←hbq18] at H;exact H
               have Nbq18:=aM hbq18;clear hbq18;by_cases c19:bq18=true
               ·subst c19;have H1:((spec_l1Has.f k3 l1 x31_2).bind fun t107=>(if t107=true then (spec_IsCover.l1 k3 l1 l2 x31_2 l0 (l0.length:Int) x31_2 (rd_L7 l0 x31_2) ((rd_L7 l0 x31_2).length:Int) (wrap64 (x38_3+1))) else ((spec_l1Has.f k3 l2 x38_3).bind fun t108=>(if t108=true then (spec_IsCover.l1 k3 l1 l2 x31_2 l0 (l0.length:Int) x31_2 (rd_L7 l0 x31_2) ((rd_L7 l0 x31_2).length:Int) (wrap64 (x38_3+1))) else (some (false,true))))))=some (r1,r2):=by rw [if_pos rfl] at H;exact H
                clear H;have H:=H1;clear H1;replace H:=Option.bind_eq_some_iff.mp H;obtain ⟨t107,A200,H⟩:=H;replace H:(if t107=true then (spec_IsCover.l1 k3 l1 l2 x31_2 l0 (l0.length:Int) x31_2 (rd_L7 l0 x31_2) ((rd_L7 l0 x31_2).length:Int) (wrap64 (x38_3+1))) else ((spec_l1Has.f k3 l2 x38_3).bind fun t108=>(if t108=true then (spec_IsCover.l1 k3 l1 l2 x31_2 l0 (l0.length:Int) x31_2 (rd_L7 l0 x31_2) ((rd_L7 l0 x31_2).length:Int) (wrap64 (x38_3+1))) else (some (false,true)))))=some (r1,r2):=H;have A20:=aM A200;clear A200;by_cases c21:t107=true
                ·subst c21;have H1:(spec_IsCover.l1 k3 l1 l2 x31_2 l0 (l0.length:Int) x31_2 (rd_L7 l0 x31_2) ((rd_L7 l0 x31_2).length:Int) (wrap64 (x38_3+1)))=some (r1,r2):=by rw [if_pos rfl] at H;exact H
                 clear H;have H:=H1;clear H1;have H':=aM H;clear H;have p106:0≤(x38_3:Int):=of_decide_eq_true (by first|(with_reducible assumption)|assumption);have q106:x38_3<((rd_L7 l0 x31_2).length:Int):=of_decide_eq_true (by first|(with_reducible assumption)|assumption);obtain ⟨ad106,e106,hx106_0⟩:=Kd.at_bool HR105_0.out x38_3 p106 q106;(try rw [←Nbq18.out] at hx106_0)
                 cases e106
                 replace p106:=eq_true p106;replace q106:=eq_true q106;go_wp2_with (first|(go_at_call 172;(with_reducible refine (spec_l1Has.calls k3 _ _ l1 x31_2 true _ ?side1 ?side2 A20.out).mono ?_);(case side1=>repeat (first|exact HR1.out|(with_reducible refine Kd.Qj ?_ _)|(with_reducible refine Kd.Qk ?_ _)|(with_reducible refine Kd.C_drew ?_)));(case side2=>exact HC1.out);rintro e w' ⟨rfl,⟨nd,rfl⟩⟩))
                 go_roundg k3
                 case measure=>have:=HJ3.out;have:=HK2.out;have:=HK3.out;omega
                 case rel=>exact ⟨(wrap64 (x38_3+1)),(by first|rfl|(simp;done)|(simp [*];done)),H',⟨by have:=HJ3.out;have:=HK2.out;have:=HK3.out;omega⟩,by repeat (first|exact Drawn0.refl _|apply Drawn0.step)⟩
                ·replace c21:=Bool.eq_false_iff.mpr c21;subst c21;have H1:((spec_l1Has.f k3 l2 x38_3).bind fun t108=>(if t108=true then (spec_IsCover.l1 k3 l1 l2 x31_2 l0 (l0.length:Int) x31_2 (rd_L7 l0 x31_2) ((rd_L7 l0 x31_2).length:Int) (wrap64 (x38_3+1))) else (some (false,true))))=some (r1,r2):=by rw [if_neg (show ¬ (false=true) by decide)] at H;exact H
                 clear H;have H:=H1;clear H1;replace H:=Option.bind_eq_some_iff.mp H;obtain ⟨t108,A220,H⟩:=H;replace H:(if t108=true then (spec_IsCover.l1 k3 l1 l2 x31_2 l0 (l0.length:Int) x31_2 (rd_L7 l0 x31_2) ((rd_L7 l0 x31_2).length:Int) (wrap64 (x38_3+1))) else (some (false,true)))=some (r1,r2):=H;have A22:=aM A220;clear A220;by_cases c23:t108=true
                 ·subst c23;have H1:(spec_IsCover.l1 k3 l1 l2 x31_2 l0 (l0.length:Int) x31_2 (rd_L7 l0 x31_2) ((rd_L7 l0 x31_2).length:Int) (wrap64 (x38_3+1)))=some (r1,r2):=by rw [if_pos rfl] at H;exact H
                  clear H;have H:=H1;clear H1;have H':=aM H;clear H;have p106:0≤(x38_3:Int):=of_decide_eq_true (by first|(with_reducible assumption)|assumption);have q106:x38_3<((rd_L7 l0 x31_2).length:Int):=of_decide_eq_true (by first|(with_reducible assumption)|assumption);obtain ⟨ad106,e106,hx106_0⟩:=Kd.at_bool HR105_0.out x38_3 p106 q106;(try rw [←Nbq18.out] at hx106_0)
                  cases e106
                  replace p106:=eq_true p106;replace q106:=eq_true q106;go_wp2_with (first|(go_at_call 172;(with_reducible refine (spec_l1Has.calls k3 _ _ l1 x31_2 false _ ?side1 ?side2 A20.out).mono ?_);(case side1=>repeat (first|exact HR1.out|(with_reducible refine Kd.Qj ?_ _)|(with_reducible refine Kd.Qk ?_ _)|(with_reducible refine Kd.C_drew ?_)));(case side2=>exact HC1.out);rintro e w' ⟨rfl,⟨nd,rfl⟩⟩)|(go_at_call 172;(with_reducible refine (spec_l1Has.calls k3 _ _ l2 x38_3 true _ ?side1 ?side2 A22.out).mono ?_);(case side1=>repeat (first|exact HR2.out|(with_reducible refine Kd.Qj ?_ _)|(with_reducible refine Kd.Qk ?_ _)|(with_reducible refine Kd.C_drew ?_)));(case side2=>exact HC2.out);rintro e w' ⟨rfl,⟨nd,rfl⟩⟩))
                  go_roundg k3
                  case measure=>have:=HJ3.out;have:=HK2.out;have:=HK3.out;omega
                  case rel=>exact ⟨(wrap64 (x38_3+1)),(by first|rfl|(simp;done)|(simp [*];done)),H',⟨by have:=HJ3.out;have:=HK2.out;have:=HK3.out;omega⟩,by repeat (first|exact Drawn0.refl _|apply Drawn0.step)⟩
                 ·replace c23:=Bool.eq_false_iff.mpr c23;subst c23;have H1:(some (false,true))=some (r1,r2):=by rw [if_neg (show ¬ (false=true) by decide)] at H;exact H
                  clear H;have H:=H1;clear H1;simp only [Option.some.injEq,Prod.mk.injEq] at H;obtain ⟨rfl,rfl⟩:=H;have p106:0≤(x38_3:Int):=of_decide_eq_true (by first|(with_reducible assumption)|assumption);have q106:x38_3<((rd_L7 l0 x31_2).length:Int):=of_decide_eq_true (by first|(with_reducible assumption)|assumption);obtain ⟨ad106,e106,hx106_0⟩:=Kd.at_bool HR105_0.out x38_3 p106 q106;(try rw [←Nbq18.out] at hx106_0)
                  cases e106
                  replace p106:=eq_true p106;replace q106:=eq_true q106;go_wp2_with (first|(go_at_call 172;(with_reducible refine (spec_l1Has.calls k3 _ _ l1 x31_2 false _ ?side1 ?side2 A20.out).mono ?_);(case side1=>repeat (first|exact HR1.out|(with_reducible refine Kd.Qj ?_ _)|(with_reducible refine Kd.Qk ?_ _)|(with_reducible refine Kd.C_drew ?_)));(case side2=>exact HC1.out);rintro e w' ⟨rfl,⟨nd,rfl⟩⟩)|(go_at_call 172;(with_reducible refine (spec_l1Has.calls k3 _ _ l2 x38_3 false _ ?side1 ?side2 A22.out).mono ?_);(case side1=>repeat (first|exact HR2.out|(with_reducible refine Kd.Qj ?_ _)|(with_reducible refine Kd.Qk ?_ _)|(with_reducible refine Kd.C_drew ?_)));(case side2=>exact HC2.out);rintro e w' ⟨rfl,⟨nd,rfl⟩⟩))
                  go_ret2
                  exact ⟨by first|rfl|(simp;done)|(simp [*];done),by repeat (first|exact Drawn0.refl _|apply Drawn0.step)⟩
               ·replace c19:=Bool.eq_false_iff.mpr c19;subst c19;have H1:(spec_IsCover.l1 k3 l1 l2 x31_2 l0 (l0.length:Int) x31_2 (rd_L7 l0 x31_2) ((rd_L7 l0 x31_2).length:Int) (wrap64 (x38_3+1)))=some (r1,r2):=by rw [if_neg (show ¬ (false=true) by decide)] at H;exact H
                clear H;have H:=H1;clear H1;have H':=aM H;clear H;have p106:0≤(x38_3:Int):=of_decide_eq_true (by first|(with_reducible assumption)|assumption);have q106:x38_3<((rd_L7 l0 x31_2).length:Int):=of_decide_eq_true (by first|(with_reducible assumption)|assumption);obtain ⟨ad106,e106,hx106_0⟩:=Kd.at_bool HR105_0.out x38_3 p106 q106;(try rw [←Nbq18.out] at hx106_0)
                cases e106
                replace p106:=eq_true p106;replace q106:=eq_true q106;go_wp2;go_roundg k3
                case measure=>have:=HJ3.out;have:=HK2.out;have:=HK3.out;omega
                case rel=>exact ⟨(wrap64 (x38_3+1)),(by first|rfl|(simp;done)|(simp [*];done)),H',⟨by have:=HJ3.out;have:=HK2.out;have:=HK3.out;omega⟩,by repeat (first|exact Drawn0.refl _|apply Drawn0.step)⟩
              ·rw [if_neg c17] at H;exact absurd H (by simp)
             ·rw [if_neg c16] at H;exact absurd H (by simp)
            ·rw [if_neg c15] at H;have c15b0:decide (x38_3<((rd_L7 l0 x31_2).length:Int))=false:=decide_eq_false c15;clear c15;have H':=aM H;clear H;go_wp2;go_roundg k3
             case measure=>have:=HJ3.out;have:=HK2.out;have:=HK3.out;omega
             case rel=>exact ⟨(wrap64 (x31_2+1)),(by first|rfl|(simp;done)|(simp [*];done)),H',⟨by have:=HJ3.out;have:=HK2.out;have:=HK3.out;omega⟩,by repeat (first|exact Drawn0.refl _|apply Drawn0.step)⟩
         ·rw [if_neg c14] at H;exact absurd H (by simp)
        ·rw [if_neg c13] at H;exact absurd H (by simp)
       ·rw [if_neg c12] at H;have c12b0:decide (x31_2<(l0.length:Int))=false:=decide_eq_false c12;clear c12;simp only [Option.some.injEq,Prod.mk.injEq] at H;obtain ⟨rfl,rfl⟩:=H;go_wp2
        go_ret2
        exact ⟨by first|rfl|(simp;done)|(simp [*];done),by repeat (first|exact Drawn0.refl _|apply Drawn0.step)⟩

mutual
def laws_FnCovers.j0:Nat→List Int→List (List Bool)→List Int→List Int→Bool→Bool→Option (Bool)
  |0,_,_,_,_,_,_=>none
  |k+1,x1,x5,x6,x7,x8,x63=>if x63=true then (some false) else (if x8=true then ((impl_MatchLoads.f k x5).bind fun bt120=>((impl_CountIn.f k bt120.1).bind fun bt124=>((impl_IsCover.f k x5 x6 x7).bind fun bt126=>(if bt120.2=true then (if bt124.2=true then (if bt124.1=(wrap64 ((x6.length:Int)+(x7.length:Int))) then (if bt126.2=true then (if bt126.1=true then (laws_FnCovers.j1 k x1) else (some false)) else (some false)) else (some false)) else (some false)) else (some false))))) else (laws_FnCovers.j1 k x1))
def laws_FnCovers.j1:Nat→List Int→Option (Bool)
  |0,_=>none
  |k+1,x1=>(spec_DrawIsCover.f k x1).bind fun bt128=>((impl_IsCover.f k bt128.1 bt128.2.1 bt128.2.2).bind fun bt137=>((spec_IsCover.f k bt128.1 bt128.2.1 bt128.2.2).bind fun bt139=>(if (bt137.2 != bt139.2)=true then (laws_FnCovers.j2 k bt128.1 bt128.2.1 bt128.2.2 bt137.1 bt137.2 true) else (laws_FnCovers.j2 k bt128.1 bt128.2.1 bt128.2.2 bt137.1 bt137.2 (bt137.1 != bt139.1)))))
def laws_FnCovers.j2:Nat→List (List Bool)→List Int→List Int→Bool→Bool→Bool→Option (Bool)
  |0,_,_,_,_,_,_=>none
  |k+1,x18,x19,x20,x21,x22,x132=>if x132=true then (some false) else (if x22=true then (laws_FnCovers.j3 k x18 x19 x20 x21) else (laws_FnCovers.j3 k x18 x19 x20 false))
def laws_FnCovers.j3:Nat→List (List Bool)→List Int→List Int→Bool→Option (Bool)
  |0,_,_,_,_=>none
  |k+1,x18,x19,x20,x136=>if x136=true then ((impl_MatchLoads.f k x18).bind fun bt141=>((impl_CountIn.f k bt141.1).bind fun bt145=>(if bt141.2=true then (if bt145.2=true then (some (decide (bt145.1≤(wrap64 ((x19.length:Int)+(x20.length:Int)))))) else (some false)) else (some false)))) else (some true)
end
def laws_FnCovers.f (k:Nat) (l0:List Int) (l1:List Int):Option (Bool):=if (wrap64 ((l0.length:Int)+(l1.length:Int))) > 1048576 then (some true) else ((spec_DrawCoverOf.f k l0).bind fun t101=>((impl_CoverOf.f k t101).bind fun bt104=>((spec_CoverOf.f k t101).bind fun bt111=>(if (bt104.2.2 != bt111.2.2)=true then (laws_FnCovers.j0 k l1 t101 bt104.1 bt104.2.1 bt104.2.2 true) else ((laws_sameInts.f k bt104.1 bt111.1).bind fun t118=>(if t118=true then ((laws_sameInts.f k bt104.2.1 bt111.2.1).bind fun t119=>(laws_FnCovers.j0 k l1 t101 bt104.1 bt104.2.1 bt104.2.2 (!t119))) else (laws_FnCovers.j0 k l1 t101 bt104.1 bt104.2.1 bt104.2.2 true)))))))
set_option maxHeartbeats 8000000 in
set_option maxRecDepth 100000 in
theorem laws_FnCovers.calls (k:Nat) (A0:Option Addr) (c0:Nat) (l0:List Int) (A1:Option Addr) (c1:Nat) (l1:List Int) (r:Bool) (w:World) (hr0:Kd.C (Kd.int .u8) w A0 l0.length l0) (hc0:l0.length≤c0) (hr1:Kd.C (Kd.int .u8) w A1 l1.length l1) (hc1:l1.length≤c1) (h:laws_FnCovers.f k l0 l1=some r) :
    Calls Try.prog 11 #[.slice A0 l0.length c0,.slice A1 l1.length c1] w fun e w'=>e= .returned (.bool r)∧Below w.heap.size w w':=by
  have HR0:=aM hr0;have HC0:=aM hc0;clear hr0 hc0;have HR1:=aM hr1;have HC1:=aM hc1;clear hr1 hc1;have HB:=aM (Below.refl w.heap.size w);have H:(if (wrap64 ((l0.length:Int)+(l1.length:Int))) > 1048576 then (some true) else ((spec_DrawCoverOf.f k l0).bind fun t101=>((impl_CoverOf.f k t101).bind fun bt104=>((spec_CoverOf.f k t101).bind fun bt111=>(if (bt104.2.2 != bt111.2.2)=true then (laws_FnCovers.j0 k l1 t101 bt104.1 bt104.2.1 bt104.2.2 true) else ((laws_sameInts.f k bt104.1 bt111.1).bind fun t118=>(if t118=true then ((laws_sameInts.f k bt104.2.1 bt111.2.1).bind fun t119=>(laws_FnCovers.j0 k l1 t101 bt104.1 bt104.2.1 bt104.2.2 (!t119))) else (laws_FnCovers.j0 k l1 t101 bt104.1 bt104.2.1 bt104.2.2 true))))))))=some r:=h;clear h;by_cases c3:(wrap64 ((l0.length:Int)+(l1.length:Int))) > 1048576
  ·rw [if_pos c3] at H;have c3b0:decide (1048576<(wrap64 ((l0.length:Int)+(l1.length:Int))))=true:=decide_eq_true c3;clear c3
   as_aux_lemma=>
    obtain rfl:=Option.some.inj H;go_enter Try.func11,Try.ntmps11;go_wp2
    go_ret
    exact ⟨by first|rfl|(simp [errW_none,errW_some] <;> rfl)|(simp [*,errW_none,errW_some] <;> rfl),by repeat (first|(with_reducible first|exact HB.out|apply Qb|apply Qa|apply Qc)|exact HB.out)⟩
  ·rw [if_neg c3] at H;have c3b0:decide (1048576<(wrap64 ((l0.length:Int)+(l1.length:Int))))=false:=decide_eq_false c3;clear c3;replace H:=Option.bind_eq_some_iff.mp H;obtain ⟨t101,A40,H⟩:=H;replace H:((impl_CoverOf.f k t101).bind fun bt104=>((spec_CoverOf.f k t101).bind fun bt111=>(if (bt104.2.2 != bt111.2.2)=true then (laws_FnCovers.j0 k l1 t101 bt104.1 bt104.2.1 bt104.2.2 true) else ((laws_sameInts.f k bt104.1 bt111.1).bind fun t118=>(if t118=true then ((laws_sameInts.f k bt104.2.1 bt111.2.1).bind fun t119=>(laws_FnCovers.j0 k l1 t101 bt104.1 bt104.2.1 bt104.2.2 (!t119))) else (laws_FnCovers.j0 k l1 t101 bt104.1 bt104.2.1 bt104.2.2 true))))))=some r:=H;have A4:=aM A40;clear A40;replace H:=Option.bind_eq_some_iff.mp H;obtain ⟨⟨t104,t105,t106⟩,A50,H⟩:=H;replace H:((spec_CoverOf.f k t101).bind fun bt111=>(if (t106 != bt111.2.2)=true then (laws_FnCovers.j0 k l1 t101 t104 t105 t106 true) else ((laws_sameInts.f k t104 bt111.1).bind fun t118=>(if t118=true then ((laws_sameInts.f k t105 bt111.2.1).bind fun t119=>(laws_FnCovers.j0 k l1 t101 t104 t105 t106 (!t119))) else (laws_FnCovers.j0 k l1 t101 t104 t105 t106 true)))))=some r:=H;have A5:=aM A50;clear A50;replace H:=Option.bind_eq_some_iff.mp H;obtain ⟨⟨t111,t112,t113⟩,A60,H⟩:=H;replace H:(if (t106 != t113)=true then (laws_FnCovers.j0 k l1 t101 t104 t105 t106 true) else ((laws_sameInts.f k t104 t111).bind fun t118=>(if t118=true then ((laws_sameInts.f k t105 t112).bind fun t119=>(laws_FnCovers.j0 k l1 t101 t104 t105 t106 (!t119))) else (laws_FnCovers.j0 k l1 t101 t104 t105 t106 true))))=some r:=H;have A6:=aM A60;clear A60;have HC7:=aM H;clear H;go_enter Try.func11,Try.ntmps11
   go_upto_region 6 with (first|((with_reducible refine Qh (f:=74) rfl ?_);refine goesL_ (some 36) rfl rfl Try.func74 (by kernel_rfl) rfl #[.slice A0 l0.length c0] rfl (by (try simp only [aD,aE,aF]);first|done|rfl|(simp only [aG,aH];rfl)) ?_;(with_reducible refine (spec_DrawCoverOf.calls k _ _ l0 t101 _ ?side1 ?side2 A4.out).mono ?_);(case side1=>repeat (first|exact HR0.out|(with_reducible refine Kd.Qj ?_ _)|(with_reducible refine Kd.Qk ?_ _)|(with_reducible refine Kd.C_drew ?_)));(case side2=>exact HC0.out);rintro e w8 ⟨v102,rfl,ho0,hb⟩;refine ⟨_,rfl,?_⟩;have n0_:=aM (Kd.N_lower (Kd.N_mono (ok':=fun k_=>True) ho0 (fun k_ hk_=>trivial)) (Ql (by repeat (first|(with_reducible first|exact HB.out|apply Qb|apply Qa|apply Qc)|exact HB.out))));have n1_:=aM (Qi (by repeat (first|(with_reducible first|exact HB.out|apply Qb|apply Qa|apply Qc)|exact HB.out)) hb);clear HB;have HO103:=n0_;have HB:=n1_;clear n0_ n1_;(try clear hb);(try clear hb2);(try clear hk);(try clear hi);(try clear ho0);obtain ⟨Ao9,co9,eo9⟩:=Kd.N_slice HO103.out;subst eo9)|((with_reducible refine Qh (f:=71) rfl ?_);refine goesL_ (some 39) rfl rfl Try.func71 (by kernel_rfl) rfl #[.slice Ao9 t101.length co9] rfl (by (try simp only [aD,aE,aF]);first|done|rfl|(simp only [aG,aH];rfl)) ?_;(with_reducible refine (impl_CoverOf.calls k _ _ t101 t104 t105 t106 _ ?side1 ?side2 A5.out).mono ?_);(case side1=>repeat (first|exact (Kd.N_reads' HO103.out).2.2|(with_reducible refine Kd.Qj ?_ _)|(with_reducible refine Kd.Qk ?_ _)|(with_reducible refine Kd.C_drew ?_)));(case side2=>exact (Kd.N_reads' HO103.out).2.1);rintro e w10 ⟨v107,v109,rfl,ho0,ho1,hb⟩;refine ⟨_,rfl,?_⟩;have n0_:=aM (Kd.N_mono (Kd.N_told (Kd.N_told (Kd.N_old (by (with_reducible repeat (first|apply Kd.N_alloc|apply Kd.N_drewN|apply Kd.N_drew));exact HO103.out) hb) (Kd.R_base ho0)) (Kd.R_base ho1)) (fun _ h_=>h_.1));have n1_:=aM (Kd.R_lower ho0 (Ql (by repeat (first|(with_reducible first|exact HB.out|apply Qb|apply Qa|apply Qc)|exact HB.out))));have n2_:=aM (Kd.R_lower ho1 (Ql (by repeat (first|(with_reducible first|exact HB.out|apply Qb|apply Qa|apply Qc)|exact HB.out))));have n3_:=aM (Qi (by repeat (first|(with_reducible first|exact HB.out|apply Qb|apply Qa|apply Qc)|exact HB.out)) hb);clear HO103;clear HB;have HO103:=n0_;have HO108:=n1_;have HO110:=n2_;have HB:=n3_;clear n0_ n1_ n2_ n3_;(try clear hb);(try clear hb2);(try clear hk);(try clear hi);(try clear ho0);(try clear ho1))|((with_reducible refine Qh (f:=70) rfl ?_);refine goesL_ (some 45) rfl rfl Try.func70 (by kernel_rfl) rfl #[.slice Ao9 t101.length co9] rfl (by (try simp only [aD,aE,aF]);first|done|rfl|(simp only [aG,aH];rfl)) ?_;(with_reducible refine (spec_CoverOf.calls k _ _ t101 t111 t112 t113 _ ?side1 ?side2 A6.out).mono ?_);(case side1=>repeat (first|exact (Kd.N_reads' HO103.out).2.2|(with_reducible refine Kd.Qj ?_ _)|(with_reducible refine Kd.Qk ?_ _)|(with_reducible refine Kd.C_drew ?_)));(case side2=>exact (Kd.N_reads' HO103.out).2.1);rintro e w11 ⟨v114,v116,rfl,ho0,ho1,hb⟩;refine ⟨_,rfl,?_⟩;have n0_:=aM (Kd.N_mono (Kd.N_told (Kd.N_told (Kd.N_old (by (with_reducible repeat (first|apply Kd.N_alloc|apply Kd.N_drewN|apply Kd.N_drew));exact HO103.out) hb) (Kd.R_base ho0)) (Kd.R_base ho1)) (fun _ h_=>h_.1));have n1_:=aM (Kd.R_mono (Kd.R_told (Kd.R_told (Kd.R_old (by (with_reducible repeat (first|apply Kd.Qd|apply Kd.Qe|apply Kd.R_drew));exact HO108.out) hb) (Kd.R_base ho0)) (Kd.R_base ho1)) (fun _ h_=>h_.1));have n2_:=aM (Kd.R_mono (Kd.R_told (Kd.R_told (Kd.R_old (by (with_reducible repeat (first|apply Kd.Qd|apply Kd.Qe|apply Kd.R_drew));exact HO110.out) hb) (Kd.R_base ho0)) (Kd.R_base ho1)) (fun _ h_=>h_.1));have n3_:=aM (Kd.R_lower (Kd.R_new' (Kd.R_new' ho0 (Kd.R_lt (by (with_reducible repeat (first|apply Kd.Qd|apply Kd.Qe|apply Kd.R_drew));exact HO108.out))) (Kd.R_lt (by (with_reducible repeat (first|apply Kd.Qd|apply Kd.Qe|apply Kd.R_drew));exact HO110.out))) (Ql (by repeat (first|(with_reducible first|exact HB.out|apply Qb|apply Qa|apply Qc)|exact HB.out))));have n4_:=aM (Kd.R_lower (Kd.R_new' (Kd.R_new' ho1 (Kd.R_lt (by (with_reducible repeat (first|apply Kd.Qd|apply Kd.Qe|apply Kd.R_drew));exact HO108.out))) (Kd.R_lt (by (with_reducible repeat (first|apply Kd.Qd|apply Kd.Qe|apply Kd.R_drew));exact HO110.out))) (Ql (by repeat (first|(with_reducible first|exact HB.out|apply Qb|apply Qa|apply Qc)|exact HB.out))));have n5_:=aM (Qi (by repeat (first|(with_reducible first|exact HB.out|apply Qb|apply Qa|apply Qc)|exact HB.out)) hb);clear HO103;clear HO108;clear HO110;clear HB;have HO103:=n0_;have HO108:=n1_;have HO110:=n2_;have HO115:=n3_;have HO117:=n4_;have HB:=n5_;clear n0_ n1_ n2_ n3_ n4_ n5_;(try clear hb);(try clear hb2);(try clear hk);(try clear hi);(try clear ho0);(try clear ho1)))
   (try simp only [Act.put,aA,aB,aC])
   go_cut [63] (fun v63 wc=>∃ (kq:Nat) (x63_6:Bool),v63= .bool x63_6∧Aside0 (laws_FnCovers.j0 kq l1 t101 t104 t105 t106 x63_6=some r)∧Aside0 (kq≤k)∧Aside0 (Kd.N (Kd.slice 4 Kd.bool) 88 wc w.heap.size (fun k_=>some k_≠(v107:Value).ownBlock∧some k_≠(v109:Value).ownBlock) (.slice Ao9 t101.length co9) t101)∧Aside0 (Kd.R (Kd.int .i64) 3 wc w.heap.size (fun k_=>some k_≠(v109:Value).ownBlock) v107 t104)∧Aside0 (Kd.R (Kd.int .i64) 3 wc w.heap.size (fun k_=>some k_≠(v107:Value).ownBlock) v109 t105)∧Aside0 (Below w.heap.size w wc))
   case first=>
    have H:=HC7.out;clear HC7;by_cases c12:(t106 != t113)=true
    ·rw [if_pos c12] at H;have c12b0:(t106 != t113)=true:=c12;(try (have c12b1:decide (t106=t113)=false:=by simpa using c12));(try (have c12b2:(t106 == t113)=false:=by simpa using c12));(try (have c12b3: ¬ (t106=t113):=by simpa using c12));clear c12
     (first|rw [c12b0]|(simp only [i64_w,i32_w];rw [c12b0])|skip)
     as_aux_lemma=>
      have H':=aM H;clear H;go_wp2
      go_meet
      case rel=>exact ⟨_,(true),(by first|rfl|(simp;done)|(simp [*];done)),H',⟨by first|omega|exact Nat.le_refl _⟩,⟨by (with_reducible repeat (first|apply Kd.N_alloc|apply Kd.N_drewN|apply Kd.N_drew));exact Kd.N_mono HO103.out (fun _ hk=>⟨hk.1.1.1.2,hk.1.1.2⟩)⟩,⟨by (with_reducible repeat (first|apply Kd.Qd|apply Kd.Qe|apply Kd.R_drew));exact Kd.R_mono HO108.out (fun _ hk=>hk.1.1)⟩,⟨by (with_reducible repeat (first|apply Kd.Qd|apply Kd.Qe|apply Kd.R_drew));exact Kd.R_mono HO110.out (fun _ hk=>hk.1.1)⟩,⟨by repeat (first|(with_reducible first|exact HB.out|apply Qb|apply Qa|apply Qc)|exact HB.out)⟩⟩
    ·rw [if_neg c12] at H;have c12b0:(t106 != t113)=false:=by simpa using c12
     (try (have c12b1:decide (t106=t113)=true:=by simpa using c12));(try (have c12b2:(t106 == t113)=true:=by simpa using c12));clear c12
     (first|rw [c12b0]|(simp only [i64_w,i32_w];rw [c12b0])|skip)
     replace H:=Option.bind_eq_some_iff.mp H;obtain ⟨t118,A130,H⟩:=H;replace H:(if t118=true then ((laws_sameInts.f k t105 t112).bind fun t119=>(laws_FnCovers.j0 k l1 t101 t104 t105 t106 (!t119))) else (laws_FnCovers.j0 k l1 t101 t104 t105 t106 true))=some r:=H;have A13:=aM A130;clear A130;by_cases c14:t118=true
     ·subst c14;have H1:((laws_sameInts.f k t105 t112).bind fun t119=>(laws_FnCovers.j0 k l1 t101 t104 t105 t106 (!t119)))=some r:=by rw [if_pos rfl] at H;exact H
      clear H;have H:=H1;clear H1;replace H:=Option.bind_eq_some_iff.mp H;obtain ⟨t119,A150,H⟩:=H;replace H:(laws_FnCovers.j0 k l1 t101 t104 t105 t106 (!t119))=some r:=H;have A15:=aM A150;clear A150
      as_aux_lemma=>
       have H':=aM H;clear H;obtain ⟨Ao16,co16,eo16⟩:=Kd.R_slice HO108.out;subst eo16;obtain ⟨Ao17,co17,eo17⟩:=Kd.R_slice HO115.out;subst eo17;go_wp2_with (first|(go_at_call 20;(with_reducible refine (laws_sameInts.calls k _ _ t104 _ _ t111 true _ ?side1 ?side2 ?side3 ?side4 A13.out).mono ?_);(case side1=>repeat (first|exact (Kd.Qf HO108.out).2.2|(with_reducible refine Kd.Qj ?_ _)|(with_reducible refine Kd.Qk ?_ _)|(with_reducible refine Kd.C_drew ?_)));(case side2=>exact (Kd.Qf HO108.out).2.1);(case side3=>repeat (first|exact (Kd.Qf HO115.out).2.2|(with_reducible refine Kd.Qj ?_ _)|(with_reducible refine Kd.Qk ?_ _)|(with_reducible refine Kd.C_drew ?_)));(case side4=>exact (Kd.Qf HO115.out).2.1);rintro e w' ⟨rfl,⟨nd,rfl⟩⟩;obtain ⟨Ao18,co18,eo18⟩:=Kd.R_slice HO110.out;subst eo18;obtain ⟨Ao19,co19,eo19⟩:=Kd.R_slice HO117.out;subst eo19)|(go_at_call 20;(with_reducible refine (laws_sameInts.calls k _ _ t105 _ _ t112 t119 _ ?side1 ?side2 ?side3 ?side4 A15.out).mono ?_);(case side1=>repeat (first|exact (Kd.Qf HO110.out).2.2|(with_reducible refine Kd.Qj ?_ _)|(with_reducible refine Kd.Qk ?_ _)|(with_reducible refine Kd.C_drew ?_)));(case side2=>exact (Kd.Qf HO110.out).2.1);(case side3=>repeat (first|exact (Kd.Qf HO117.out).2.2|(with_reducible refine Kd.Qj ?_ _)|(with_reducible refine Kd.Qk ?_ _)|(with_reducible refine Kd.C_drew ?_)));(case side4=>exact (Kd.Qf HO117.out).2.1);rintro e w' ⟨rfl,⟨nd,rfl⟩⟩))
       go_meet
       case rel=>exact ⟨_,(!t119),(by first|rfl|(simp;done)|(simp [*];done)),H',⟨by first|omega|exact Nat.le_refl _⟩,⟨by (with_reducible repeat (first|apply Kd.N_alloc|apply Kd.N_drewN|apply Kd.N_drew));exact Kd.N_mono HO103.out (fun _ hk=>⟨hk.1.1.1.2,hk.1.1.2⟩)⟩,⟨by (with_reducible repeat (first|apply Kd.Qd|apply Kd.Qe|apply Kd.R_drew));exact Kd.R_mono HO108.out (fun _ hk=>hk.1.1)⟩,⟨by (with_reducible repeat (first|apply Kd.Qd|apply Kd.Qe|apply Kd.R_drew));exact Kd.R_mono HO110.out (fun _ hk=>hk.1.1)⟩,⟨by repeat (first|(with_reducible first|exact HB.out|apply Qb|apply Qa|apply Qc)|exact HB.out)⟩⟩
     ·replace c14:=Bool.eq_false_iff.mpr c14;subst c14;have H1:(laws_FnCovers.j0 k l1 t101 t104 t105 t106 true)=some r:=by rw [if_neg (show ¬ (false=true) by decide)] at H;exact H
      clear H;have H:=H1;clear H1
      as_aux_lemma=>
       have H':=aM H;clear H;obtain ⟨Ao20,co20,eo20⟩:=Kd.R_slice HO108.out;subst eo20;obtain ⟨Ao21,co21,eo21⟩:=Kd.R_slice HO115.out;subst eo21;go_wp2_with (first|(go_at_call 20;(with_reducible refine (laws_sameInts.calls k _ _ t104 _ _ t111 false _ ?side1 ?side2 ?side3 ?side4 A13.out).mono ?_);(case side1=>repeat (first|exact (Kd.Qf HO108.out).2.2|(with_reducible refine Kd.Qj ?_ _)|(with_reducible refine Kd.Qk ?_ _)|(with_reducible refine Kd.C_drew ?_)));(case side2=>exact (Kd.Qf HO108.out).2.1);(case side3=>repeat (first|exact (Kd.Qf HO115.out).2.2|(with_reducible refine Kd.Qj ?_ _)|(with_reducible refine Kd.Qk ?_ _)|(with_reducible refine Kd.C_drew ?_)));(case side4=>exact (Kd.Qf HO115.out).2.1);rintro e w' ⟨rfl,⟨nd,rfl⟩⟩))
       go_meet
       case rel=>exact ⟨_,(true),(by first|rfl|(simp;done)|(simp [*];done)),H',⟨by first|omega|exact Nat.le_refl _⟩,⟨by (with_reducible repeat (first|apply Kd.N_alloc|apply Kd.N_drewN|apply Kd.N_drew));exact Kd.N_mono HO103.out (fun _ hk=>⟨hk.1.1.1.2,hk.1.1.2⟩)⟩,⟨by (with_reducible repeat (first|apply Kd.Qd|apply Kd.Qe|apply Kd.R_drew));exact Kd.R_mono HO108.out (fun _ hk=>hk.1.1)⟩,⟨by (with_reducible repeat (first|apply Kd.Qd|apply Kd.Qe|apply Kd.R_drew));exact Kd.R_mono HO110.out (fun _ hk=>hk.1.1)⟩,⟨by repeat (first|(with_reducible first|exact HB.out|apply Qb|apply Qa|apply Qc)|exact HB.out)⟩⟩
   case rest=>
    clear HC7;(try clear c1);(try clear p2);(try clear c3);(try clear c3b0);(try clear p6);(try clear c7);(try clear c11);(try clear c12);(try clear c12b0);(try clear c12b1);(try clear c12b2);(try clear c14);obtain ⟨kq,x63_6,rfl,HA,HJ6,HO_5,HO_6,HO_7,HB⟩:=hcut
    cases kq with
    |zero=>exact absurd HA.out (by simp [laws_FnCovers.j0])
    |succ kj6=>
     have H:=HA.out;clear HA;simp only [laws_FnCovers.j0] at H;by_cases c22:x63_6=true
     ·subst c22;have H1:(some false)=some r:=by rw [if_pos rfl] at H;exact H
      clear H;have H:=H1;clear H1
      as_aux_lemma=>
       obtain rfl:=Option.some.inj H;go_wp2
       go_ret
       exact ⟨by first|rfl|(simp [errW_none,errW_some] <;> rfl)|(simp [*,errW_none,errW_some] <;> rfl),by repeat (first|(with_reducible first|exact HB.out|apply Qb|apply Qa|apply Qc)|exact HB.out)⟩
     ·replace c22:=Bool.eq_false_iff.mpr c22;subst c22;have H1:(if t106=true then ((impl_MatchLoads.f kj6 t101).bind fun bt120=>((impl_CountIn.f kj6 bt120.1).bind fun bt124=>((impl_IsCover.f kj6 t101 t104 t105).bind fun bt126=>(if bt120.2=true then (if bt124.2=true then (if bt124.1=(wrap64 ((t104.length:Int)+(t105.length:Int))) then (if bt126.2=true then (if bt126.1=true then (laws_FnCovers.j1 kj6 l1) else (some false)) else (some false)) else (some false)) else (some false)) else (some false))))) else (laws_FnCovers.j1 kj6 l1))=some r:=by rw [if_neg (show ¬ (false=true) by decide)] at H;exact H
      clear H;have H:=H1;clear H1;have HC23:=aM H;clear H
      go_upto_if 64 with (fail)
      go_cut [] (fun wc=>∃ (kq:Nat),Aside0 (laws_FnCovers.j1 kq l1=some r)∧Aside0 (kq≤kj6)∧Aside0 (Below w.heap.size w wc))
      case first=>
       have H:=HC23.out;clear HC23;by_cases c24:t106=true
       ·subst c24;have H1:((impl_MatchLoads.f kj6 t101).bind fun bt120=>((impl_CountIn.f kj6 bt120.1).bind fun bt124=>((impl_IsCover.f kj6 t101 t104 t105).bind fun bt126=>(if bt120.2=true then (if bt124.2=true then (if bt124.1=(wrap64 ((t104.length:Int)+(t105.length:Int))) then (if bt126.2=true then (if bt126.1=true then (laws_FnCovers.j1 kj6 l1) else (some false)) else (some false)) else (some false)) else (some false)) else (some false)))))=some r:=by rw [if_pos rfl] at H;exact H
        clear H;have H:=H1;clear H1;replace H:=Option.bind_eq_some_iff.mp H;obtain ⟨⟨t120,t121⟩,A250,H⟩:=H;replace H:((impl_CountIn.f kj6 t120).bind fun bt124=>((impl_IsCover.f kj6 t101 t104 t105).bind fun bt126=>(if t121=true then (if bt124.2=true then (if bt124.1=(wrap64 ((t104.length:Int)+(t105.length:Int))) then (if bt126.2=true then (if bt126.1=true then (laws_FnCovers.j1 kj6 l1) else (some false)) else (some false)) else (some false)) else (some false)) else (some false))))=some r:=H;have A25:=aM A250;clear A250;replace H:=Option.bind_eq_some_iff.mp H;obtain ⟨⟨t124,t125⟩,A260,H⟩:=H;replace H:((impl_IsCover.f kj6 t101 t104 t105).bind fun bt126=>(if t121=true then (if t125=true then (if t124=(wrap64 ((t104.length:Int)+(t105.length:Int))) then (if bt126.2=true then (if bt126.1=true then (laws_FnCovers.j1 kj6 l1) else (some false)) else (some false)) else (some false)) else (some false)) else (some false)))=some r:=H;have A26:=aM A260;clear A260;replace H:=Option.bind_eq_some_iff.mp H;obtain ⟨⟨t126,t127⟩,A270,H⟩:=H;replace H:(if t121=true then (if t125=true then (if t124=(wrap64 ((t104.length:Int)+(t105.length:Int))) then (if t127=true then (if t126=true then (laws_FnCovers.j1 kj6 l1) else (some false)) else (some false)) else (some false)) else (some false)) else (some false))=some r:=H;have A27:=aM A270;clear A270;by_cases c28:t121=true
        ·subst c28;have H1:(if t125=true then (if t124=(wrap64 ((t104.length:Int)+(t105.length:Int))) then (if t127=true then (if t126=true then (laws_FnCovers.j1 kj6 l1) else (some false)) else (some false)) else (some false)) else (some false))=some r:=by rw [if_pos rfl] at H;exact H
         clear H;have H:=H1;clear H1;by_cases c29:t125=true
         ·subst c29;have H1:(if t124=(wrap64 ((t104.length:Int)+(t105.length:Int))) then (if t127=true then (if t126=true then (laws_FnCovers.j1 kj6 l1) else (some false)) else (some false)) else (some false))=some r:=by rw [if_pos rfl] at H;exact H
          clear H;have H:=H1;clear H1;by_cases c30:t124=(wrap64 ((t104.length:Int)+(t105.length:Int)))
          ·rw [if_pos c30] at H;have c30b0:(t124 == (wrap64 ((t104.length:Int)+(t105.length:Int))))=true:=beq_iff_eq.mpr c30;have c30b1:(t124 != (wrap64 ((t104.length:Int)+(t105.length:Int))))=false:=bne_eq_false_iff_eq.mpr c30;clear c30
           (first|rw [c30b0]|(simp only [i64_w,i32_w];rw [c30b0])|skip)
           by_cases c31:t127=true
           ·subst c31;have H1:(if t126=true then (laws_FnCovers.j1 kj6 l1) else (some false))=some r:=by rw [if_pos rfl] at H;exact H
            clear H;have H:=H1;clear H1;by_cases c32:t126=true
            ·subst c32;have H1:(laws_FnCovers.j1 kj6 l1)=some r:=by rw [if_pos rfl] at H;exact H
             clear H;have H:=H1;clear H1
             as_aux_lemma=>
              have H':=aM H;clear H;go_wp2_with (first|((with_reducible refine Qh (f:=60) rfl ?_);refine goesL_ (some 67) rfl rfl Try.func60 (by kernel_rfl) rfl #[.slice Ao9 t101.length co9] rfl (by (try simp only [aD,aE,aF]);first|done|rfl|(simp only [aG,aH];rfl)) ?_;(with_reducible refine (impl_MatchLoads.calls kj6 _ _ t101 t120 true _ ?side1 ?side2 A25.out).mono ?_);(case side1=>repeat (first|exact (Kd.N_reads' HO_5.out).2.2|(with_reducible refine Kd.Qj ?_ _)|(with_reducible refine Kd.Qk ?_ _)|(with_reducible refine Kd.C_drew ?_)));(case side2=>exact (Kd.N_reads' HO_5.out).2.1);rintro e w33 ⟨v122,rfl,ho0,hb⟩;refine ⟨_,rfl,?_⟩;have n0_:=aM (Kd.N_elder' (by (with_reducible repeat (first|apply Kd.N_alloc|apply Kd.N_drewN|apply Kd.N_drew));exact HO_5.out) (Kd.R_base ho0) hb);have n1_:=aM (Kd.R_elder' (by (with_reducible repeat (first|apply Kd.Qd|apply Kd.Qe|apply Kd.R_drew));exact HO_6.out) (Kd.R_base ho0) hb);have n2_:=aM (Kd.R_elder' (by (with_reducible repeat (first|apply Kd.Qd|apply Kd.Qe|apply Kd.R_drew));exact HO_7.out) (Kd.R_base ho0) hb);have n3_:=aM (Kd.R_lower (Kd.R_new' (Kd.R_new' ho0 (Kd.R_lt (by (with_reducible repeat (first|apply Kd.Qd|apply Kd.Qe|apply Kd.R_drew));exact HO_6.out))) (Kd.R_lt (by (with_reducible repeat (first|apply Kd.Qd|apply Kd.Qe|apply Kd.R_drew));exact HO_7.out))) (Ql (by repeat (first|(with_reducible first|exact HB.out|apply Qb|apply Qa|apply Qc)|exact HB.out))));have n4_:=aM (Qi (by repeat (first|(with_reducible first|exact HB.out|apply Qb|apply Qa|apply Qc)|exact HB.out)) hb);clear HO_5;clear HO_6;clear HO_7;clear HB;have HO_5:=n0_;have HO_6:=n1_;have HO_7:=n2_;have HO123:=n3_;have HB:=n4_;clear n0_ n1_ n2_ n3_ n4_;(try clear hb);(try clear hb2);(try clear hk);(try clear hi);(try clear ho0);obtain ⟨Ao34,co34,eo34⟩:=Kd.R_slice HO123.out;subst eo34)|((with_reducible refine Qh (f:=75) rfl ?_);refine goesL_ (some 72) rfl rfl Try.func75 (by kernel_rfl) rfl #[.slice Ao34 t120.length co34] rfl (by (try simp only [aD,aE,aF]);first|done|rfl|(simp only [aG,aH];rfl)) ?_;(with_reducible refine (impl_CountIn.calls kj6 _ _ t120 t124 true _ ?side1 ?side2 A26.out).mono ?_);(case side1=>repeat (first|exact (Kd.Qf HO123.out).2.2|(with_reducible refine Kd.Qj ?_ _)|(with_reducible refine Kd.Qk ?_ _)|(with_reducible refine Kd.C_drew ?_)));(case side2=>exact (Kd.Qf HO123.out).2.1);rintro e w35 ⟨rfl,hb⟩;refine ⟨_,rfl,?_⟩;have n0_:=aM (Kd.N_below (by (with_reducible repeat (first|apply Kd.N_alloc|apply Kd.N_drewN|apply Kd.N_drew));exact HO_5.out) hb);have n1_:=aM (Kd.R_below (by (with_reducible repeat (first|apply Kd.Qd|apply Kd.Qe|apply Kd.R_drew));exact HO_6.out) hb);have n2_:=aM (Kd.R_below (by (with_reducible repeat (first|apply Kd.Qd|apply Kd.Qe|apply Kd.R_drew));exact HO_7.out) hb);have n3_:=aM (Kd.R_below (by (with_reducible repeat (first|apply Kd.Qd|apply Kd.Qe|apply Kd.R_drew));exact HO123.out) hb);have n4_:=aM (Qi (by repeat (first|(with_reducible first|exact HB.out|apply Qb|apply Qa|apply Qc)|exact HB.out)) hb);clear HO_5;clear HO_6;clear HO_7;clear HO123;clear HB;have HO_5:=n0_;have HO_6:=n1_;have HO_7:=n2_;have HO123:=n3_;have HB:=n4_;clear n0_ n1_ n2_ n3_ n4_;(try clear hb);(try clear hb2);(try clear hk);(try clear hi);obtain ⟨Ao36,co36,eo36⟩:=Kd.R_slice HO_6.out;subst eo36;obtain ⟨Ao37,co37,eo37⟩:=Kd.R_slice HO_7.out;subst eo37)|((with_reducible refine Qh (f:=76) rfl ?_);refine goesL_ (some 79) rfl rfl Try.func76 (by kernel_rfl) rfl #[.slice Ao9 t101.length co9,.slice Ao36 t104.length co36,.slice Ao37 t105.length co37] rfl (by (try simp only [aD,aE,aF]);first|done|rfl|(simp only [aG,aH];rfl)) ?_;(with_reducible refine (impl_IsCover.calls kj6 _ _ t101 _ _ t104 _ _ t105 true true _ ?side1 ?side2 ?side3 ?side4 ?side5 ?side6 A27.out).mono ?_);(case side1=>repeat (first|exact (Kd.N_reads' HO_5.out).2.2|(with_reducible refine Kd.Qj ?_ _)|(with_reducible refine Kd.Qk ?_ _)|(with_reducible refine Kd.C_drew ?_)));(case side2=>exact (Kd.N_reads' HO_5.out).2.1);(case side3=>repeat (first|exact (Kd.Qf HO_6.out).2.2|(with_reducible refine Kd.Qj ?_ _)|(with_reducible refine Kd.Qk ?_ _)|(with_reducible refine Kd.C_drew ?_)));(case side4=>exact (Kd.Qf HO_6.out).2.1);(case side5=>repeat (first|exact (Kd.Qf HO_7.out).2.2|(with_reducible refine Kd.Qj ?_ _)|(with_reducible refine Kd.Qk ?_ _)|(with_reducible refine Kd.C_drew ?_)));(case side6=>exact (Kd.Qf HO_7.out).2.1);rintro e w38 ⟨rfl,hb⟩;refine ⟨_,rfl,?_⟩;have n0_:=aM (Kd.N_below (by (with_reducible repeat (first|apply Kd.N_alloc|apply Kd.N_drewN|apply Kd.N_drew));exact HO_5.out) hb);have n1_:=aM (Kd.R_below (by (with_reducible repeat (first|apply Kd.Qd|apply Kd.Qe|apply Kd.R_drew));exact HO_6.out) hb);have n2_:=aM (Kd.R_below (by (with_reducible repeat (first|apply Kd.Qd|apply Kd.Qe|apply Kd.R_drew));exact HO_7.out) hb);have n3_:=aM (Kd.R_below (by (with_reducible repeat (first|apply Kd.Qd|apply Kd.Qe|apply Kd.R_drew));exact HO123.out) hb);have n4_:=aM (Qi (by repeat (first|(with_reducible first|exact HB.out|apply Qb|apply Qa|apply Qc)|exact HB.out)) hb);clear HO_5;clear HO_6;clear HO_7;clear HO123;clear HB;have HO_5:=n0_;have HO_6:=n1_;have HO_7:=n2_;have HO123:=n3_;have HB:=n4_;clear n0_ n1_ n2_ n3_ n4_;(try clear hb);(try clear hb2);(try clear hk);(try clear hi)))
              go_meet
              case rel=>exact ⟨_,H',⟨by have:=HJ6.out;first|omega|exact Nat.le_refl _⟩,⟨by repeat (first|(with_reducible first|exact HB.out|apply Qb|apply Qa|apply Qc)|exact HB.out)⟩⟩
            ·replace c32:=Bool.eq_false_iff.mpr c32;subst c32;have H1:(some false)=some r:=by rw [if_neg (show ¬ (false=true) by decide)] at H;exact H
             clear H;have H:=H1;clear H1
             as_aux_lemma=>
              obtain rfl:=Option.some.inj H;go_wp2_with (first|((with_reducible refine Qh (f:=60) rfl ?_);refine goesL_ (some 67) rfl rfl Try.func60 (by kernel_rfl) rfl #[.slice Ao9 t101.length co9] rfl (by (try simp only [aD,aE,aF]);first|done|rfl|(simp only [aG,aH];rfl)) ?_;(with_reducible refine (impl_MatchLoads.calls kj6 _ _ t101 t120 true _ ?side1 ?side2 A25.out).mono ?_);(case side1=>repeat (first|exact (Kd.N_reads' HO_5.out).2.2|(with_reducible refine Kd.Qj ?_ _)|(with_reducible refine Kd.Qk ?_ _)|(with_reducible refine Kd.C_drew ?_)));(case side2=>exact (Kd.N_reads' HO_5.out).2.1);rintro e w39 ⟨v122,rfl,ho0,hb⟩;refine ⟨_,rfl,?_⟩;have n0_:=aM (Kd.N_elder' (by (with_reducible repeat (first|apply Kd.N_alloc|apply Kd.N_drewN|apply Kd.N_drew));exact HO_5.out) (Kd.R_base ho0) hb);have n1_:=aM (Kd.R_elder' (by (with_reducible repeat (first|apply Kd.Qd|apply Kd.Qe|apply Kd.R_drew));exact HO_6.out) (Kd.R_base ho0) hb);have n2_:=aM (Kd.R_elder' (by (with_reducible repeat (first|apply Kd.Qd|apply Kd.Qe|apply Kd.R_drew));exact HO_7.out) (Kd.R_base ho0) hb);have n3_:=aM (Kd.R_lower (Kd.R_new' (Kd.R_new' ho0 (Kd.R_lt (by (with_reducible repeat (first|apply Kd.Qd|apply Kd.Qe|apply Kd.R_drew));exact HO_6.out))) (Kd.R_lt (by (with_reducible repeat (first|apply Kd.Qd|apply Kd.Qe|apply Kd.R_drew));exact HO_7.out))) (Ql (by repeat (first|(with_reducible first|exact HB.out|apply Qb|apply Qa|apply Qc)|exact HB.out))));have n4_:=aM (Qi (by repeat (first|(with_reducible first|exact HB.out|apply Qb|apply Qa|apply Qc)|exact HB.out)) hb);clear HO_5;clear HO_6;clear HO_7;clear HB;have HO_5:=n0_;have HO_6:=n1_;have HO_7:=n2_;have HO123:=n3_;have HB:=n4_;clear n0_ n1_ n2_ n3_ n4_;(try clear hb);(try clear hb2);(try clear hk);(try clear hi);(try clear ho0);obtain ⟨Ao40,co40,eo40⟩:=Kd.R_slice HO123.out;subst eo40)|((with_reducible refine Qh (f:=75) rfl ?_);refine goesL_ (some 72) rfl rfl Try.func75 (by kernel_rfl) rfl #[.slice Ao40 t120.length co40] rfl (by (try simp only [aD,aE,aF]);first|done|rfl|(simp only [aG,aH];rfl)) ?_;(with_reducible refine (impl_CountIn.calls kj6 _ _ t120 t124 true _ ?side1 ?side2 A26.out).mono ?_);(case side1=>repeat (first|exact (Kd.Qf HO123.out).2.2|(with_reducible refine Kd.Qj ?_ _)|(with_reducible refine Kd.Qk ?_ _)|(with_reducible refine Kd.C_drew ?_)));(case side2=>exact (Kd.Qf HO123.out).2.1);rintro e w41 ⟨rfl,hb⟩;refine ⟨_,rfl,?_⟩;have n0_:=aM (Kd.N_below (by (with_reducible repeat (first|apply Kd.N_alloc|apply Kd.N_drewN|apply Kd.N_drew));exact HO_5.out) hb);have n1_:=aM (Kd.R_below (by (with_reducible repeat (first|apply Kd.Qd|apply Kd.Qe|apply Kd.R_drew));exact HO_6.out) hb);have n2_:=aM (Kd.R_below (by (with_reducible repeat (first|apply Kd.Qd|apply Kd.Qe|apply Kd.R_drew));exact HO_7.out) hb);have n3_:=aM (Kd.R_below (by (with_reducible repeat (first|apply Kd.Qd|apply Kd.Qe|apply Kd.R_drew));exact HO123.out) hb);have n4_:=aM (Qi (by repeat (first|(with_reducible first|exact HB.out|apply Qb|apply Qa|apply Qc)|exact HB.out)) hb);clear HO_5;clear HO_6;clear HO_7;clear HO123;clear HB;have HO_5:=n0_;have HO_6:=n1_;have HO_7:=n2_;have HO123:=n3_;have HB:=n4_;clear n0_ n1_ n2_ n3_ n4_;(try clear hb);(try clear hb2);(try clear hk);(try clear hi);obtain ⟨Ao42,co42,eo42⟩:=Kd.R_slice HO_6.out;subst eo42;obtain ⟨Ao43,co43,eo43⟩:=Kd.R_slice HO_7.out;subst eo43)|((with_reducible refine Qh (f:=76) rfl ?_);refine goesL_ (some 79) rfl rfl Try.func76 (by kernel_rfl) rfl #[.slice Ao9 t101.length co9,.slice Ao42 t104.length co42,.slice Ao43 t105.length co43] rfl (by (try simp only [aD,aE,aF]);first|done|rfl|(simp only [aG,aH];rfl)) ?_;(with_reducible refine (impl_IsCover.calls kj6 _ _ t101 _ _ t104 _ _ t105 false true _ ?side1 ?side2 ?side3 ?side4 ?side5 ?side6 A27.out).mono ?_);(case side1=>repeat (first|exact (Kd.N_reads' HO_5.out).2.2|(with_reducible refine Kd.Qj ?_ _)|(with_reducible refine Kd.Qk ?_ _)|(with_reducible refine Kd.C_drew ?_)));(case side2=>exact (Kd.N_reads' HO_5.out).2.1);(case side3=>repeat (first|exact (Kd.Qf HO_6.out).2.2|(with_reducible refine Kd.Qj ?_ _)|(with_reducible refine Kd.Qk ?_ _)|(with_reducible refine Kd.C_drew ?_)));(case side4=>exact (Kd.Qf HO_6.out).2.1);(case side5=>repeat (first|exact (Kd.Qf HO_7.out).2.2|(with_reducible refine Kd.Qj ?_ _)|(with_reducible refine Kd.Qk ?_ _)|(with_reducible refine Kd.C_drew ?_)));(case side6=>exact (Kd.Qf HO_7.out).2.1);rintro e w44 ⟨rfl,hb⟩;refine ⟨_,rfl,?_⟩;have n0_:=aM (Kd.N_below (by (with_reducible repeat (first|apply Kd.N_alloc|apply Kd.N_drewN|apply Kd.N_drew));exact HO_5.out) hb);have n1_:=aM (Kd.R_below (by (with_reducible repeat (first|apply Kd.Qd|apply Kd.Qe|apply Kd.R_drew));exact HO_6.out) hb);have n2_:=aM (Kd.R_below (by (with_reducible repeat (first|apply Kd.Qd|apply Kd.Qe|apply Kd.R_drew));exact HO_7.out) hb);have n3_:=aM (Kd.R_below (by (with_reducible repeat (first|apply Kd.Qd|apply Kd.Qe|apply Kd.R_drew));exact HO123.out) hb);have n4_:=aM (Qi (by repeat (first|(with_reducible first|exact HB.out|apply Qb|apply Qa|apply Qc)|exact HB.out)) hb);clear HO_5;clear HO_6;clear HO_7;clear HO123;clear HB;have HO_5:=n0_;have HO_6:=n1_;have HO_7:=n2_;have HO123:=n3_;have HB:=n4_;clear n0_ n1_ n2_ n3_ n4_;(try clear hb);(try clear hb2);(try clear hk);(try clear hi)))
              go_ret
              exact ⟨by first|rfl|(simp [errW_none,errW_some] <;> rfl)|(simp [*,errW_none,errW_some] <;> rfl),by repeat (first|(with_reducible first|exact HB.out|apply Qb|apply Qa|apply Qc)|exact HB.out)⟩
           ·replace c31:=Bool.eq_false_iff.mpr c31;subst c31;have H1:(some false)=some r:=by rw [if_neg (show ¬ (false=true) by decide)] at H;exact H
            clear H;have H:=H1;clear H1
            as_aux_lemma=>
             obtain rfl:=Option.some.inj H;go_wp2_with (first|((with_reducible refine Qh (f:=60) rfl ?_);refine goesL_ (some 67) rfl rfl Try.func60 (by kernel_rfl) rfl #[.slice Ao9 t101.length co9] rfl (by (try simp only [aD,aE,aF]);first|done|rfl|(simp only [aG,aH];rfl)) ?_;(with_reducible refine (impl_MatchLoads.calls kj6 _ _ t101 t120 true _ ?side1 ?side2 A25.out).mono ?_);(case side1=>repeat (first|exact (Kd.N_reads' HO_5.out).2.2|(with_reducible refine Kd.Qj ?_ _)|(with_reducible refine Kd.Qk ?_ _)|(with_reducible refine Kd.C_drew ?_)));(case side2=>exact (Kd.N_reads' HO_5.out).2.1);rintro e w45 ⟨v122,rfl,ho0,hb⟩;refine ⟨_,rfl,?_⟩;have n0_:=aM (Kd.N_elder' (by (with_reducible repeat (first|apply Kd.N_alloc|apply Kd.N_drewN|apply Kd.N_drew));exact HO_5.out) (Kd.R_base ho0) hb);have n1_:=aM (Kd.R_elder' (by (with_reducible repeat (first|apply Kd.Qd|apply Kd.Qe|apply Kd.R_drew));exact HO_6.out) (Kd.R_base ho0) hb);have n2_:=aM (Kd.R_elder' (by (with_reducible repeat (first|apply Kd.Qd|apply Kd.Qe|apply Kd.R_drew));exact HO_7.out) (Kd.R_base ho0) hb);have n3_:=aM (Kd.R_lower (Kd.R_new' (Kd.R_new' ho0 (Kd.R_lt (by (with_reducible repeat (first|apply Kd.Qd|apply Kd.Qe|apply Kd.R_drew));exact HO_6.out))) (Kd.R_lt (by (with_reducible repeat (first|apply Kd.Qd|apply Kd.Qe|apply Kd.R_drew));exact HO_7.out))) (Ql (by repeat (first|(with_reducible first|exact HB.out|apply Qb|apply Qa|apply Qc)|exact HB.out))));have n4_:=aM (Qi (by repeat (first|(with_reducible first|exact HB.out|apply Qb|apply Qa|apply Qc)|exact HB.out)) hb);clear HO_5;clear HO_6;clear HO_7;clear HB;have HO_5:=n0_;have HO_6:=n1_;have HO_7:=n2_;have HO123:=n3_;have HB:=n4_;clear n0_ n1_ n2_ n3_ n4_;(try clear hb);(try clear hb2);(try clear hk);(try clear hi);(try clear ho0);obtain ⟨Ao46,co46,eo46⟩:=Kd.R_slice HO123.out;subst eo46)|((with_reducible refine Qh (f:=75) rfl ?_);refine goesL_ (some 72) rfl rfl Try.func75 (by kernel_rfl) rfl #[.slice Ao46 t120.length co46] rfl (by (try simp only [aD,aE,aF]);first|done|rfl|(simp only [aG,aH];rfl)) ?_;(with_reducible refine (impl_CountIn.calls kj6 _ _ t120 t124 true _ ?side1 ?side2 A26.out).mono ?_);(case side1=>repeat (first|exact (Kd.Qf HO123.out).2.2|(with_reducible refine Kd.Qj ?_ _)|(with_reducible refine Kd.Qk ?_ _)|(with_reducible refine Kd.C_drew ?_)));(case side2=>exact (Kd.Qf HO123.out).2.1);rintro e w47 ⟨rfl,hb⟩;refine ⟨_,rfl,?_⟩;have n0_:=aM (Kd.N_below (by (with_reducible repeat (first|apply Kd.N_alloc|apply Kd.N_drewN|apply Kd.N_drew));exact HO_5.out) hb);have n1_:=aM (Kd.R_below (by (with_reducible repeat (first|apply Kd.Qd|apply Kd.Qe|apply Kd.R_drew));exact HO_6.out) hb);have n2_:=aM (Kd.R_below (by (with_reducible repeat (first|apply Kd.Qd|apply Kd.Qe|apply Kd.R_drew));exact HO_7.out) hb);have n3_:=aM (Kd.R_below (by (with_reducible repeat (first|apply Kd.Qd|apply Kd.Qe|apply Kd.R_drew));exact HO123.out) hb);have n4_:=aM (Qi (by repeat (first|(with_reducible first|exact HB.out|apply Qb|apply Qa|apply Qc)|exact HB.out)) hb);clear HO_5;clear HO_6;clear HO_7;clear HO123;clear HB;have HO_5:=n0_;have HO_6:=n1_;have HO_7:=n2_;have HO123:=n3_;have HB:=n4_;clear n0_ n1_ n2_ n3_ n4_;(try clear hb);(try clear hb2);(try clear hk);(try clear hi);obtain ⟨Ao48,co48,eo48⟩:=Kd.R_slice HO_6.out;subst eo48;obtain ⟨Ao49,co49,eo49⟩:=Kd.R_slice HO_7.out;subst eo49)|((with_reducible refine Qh (f:=76) rfl ?_);refine goesL_ (some 79) rfl rfl Try.func76 (by kernel_rfl) rfl #[.slice Ao9 t101.length co9,.slice Ao48 t104.length co48,.slice Ao49 t105.length co49] rfl (by (try simp only [aD,aE,aF]);first|done|rfl|(simp only [aG,aH];rfl)) ?_;(with_reducible refine (impl_IsCover.calls kj6 _ _ t101 _ _ t104 _ _ t105 t126 false _ ?side1 ?side2 ?side3 ?side4 ?side5 ?side6 A27.out).mono ?_);(case side1=>repeat (first|exact (Kd.N_reads' HO_5.out).2.2|(with_reducible refine Kd.Qj ?_ _)|(with_reducible refine Kd.Qk ?_ _)|(with_reducible refine Kd.C_drew ?_)));(case side2=>exact (Kd.N_reads' HO_5.out).2.1);(case side3=>repeat (first|exact (Kd.Qf HO_6.out).2.2|(with_reducible refine Kd.Qj ?_ _)|(with_reducible refine Kd.Qk ?_ _)|(with_reducible refine Kd.C_drew ?_)));(case side4=>exact (Kd.Qf HO_6.out).2.1);(case side5=>repeat (first|exact (Kd.Qf HO_7.out).2.2|(with_reducible refine Kd.Qj ?_ _)|(with_reducible refine Kd.Qk ?_ _)|(with_reducible refine Kd.C_drew ?_)));(case side6=>exact (Kd.Qf HO_7.out).2.1);rintro e w50 ⟨rfl,hb⟩;refine ⟨_,rfl,?_⟩;have n0_:=aM (Kd.N_below (by (with_reducible repeat (first|apply Kd.N_alloc|apply Kd.N_drewN|apply Kd.N_drew));exact HO_5.out) hb);have n1_:=aM (Kd.R_below (by (with_reducible repeat (first|apply Kd.Qd|apply Kd.Qe|apply Kd.R_drew));exact HO_6.out) hb);have n2_:=aM (Kd.R_below (by (with_reducible repeat (first|apply Kd.Qd|apply Kd.Qe|apply Kd.R_drew));exact HO_7.out) hb);have n3_:=aM (Kd.R_below (by (with_reducible repeat (first|apply Kd.Qd|apply Kd.Qe|apply Kd.R_drew));exact HO123.out) hb);have n4_:=aM (Qi (by repeat (first|(with_reducible first|exact HB.out|apply Qb|apply Qa|apply Qc)|exact HB.out)) hb);clear HO_5;clear HO_6;clear HO_7;clear HO123;clear HB;have HO_5:=n0_;have HO_6:=n1_;have HO_7:=n2_;have HO123:=n3_;have HB:=n4_;clear n0_ n1_ n2_ n3_ n4_;(try clear hb);(try clear hb2);(try clear hk);(try clear hi)))
             go_ret
             exact ⟨by first|rfl|(simp [errW_none,errW_some] <;> rfl)|(simp [*,errW_none,errW_some] <;> rfl),by repeat (first|(with_reducible first|exact HB.out|apply Qb|apply Qa|apply Qc)|exact HB.out)⟩
          ·rw [if_neg c30] at H;have c30b0:(t124 == (wrap64 ((t104.length:Int)+(t105.length:Int))))=false:=beq_eq_false_iff_ne.mpr c30;have c30b1:(t124 != (wrap64 ((t104.length:Int)+(t105.length:Int))))=true:=bne_iff_ne.mpr c30
           (first|rw [c30b0]|(simp only [i64_w,i32_w];rw [c30b0])|skip)
           as_aux_lemma=>
            obtain rfl:=Option.some.inj H;go_wp2_with (first|((with_reducible refine Qh (f:=60) rfl ?_);refine goesL_ (some 67) rfl rfl Try.func60 (by kernel_rfl) rfl #[.slice Ao9 t101.length co9] rfl (by (try simp only [aD,aE,aF]);first|done|rfl|(simp only [aG,aH];rfl)) ?_;(with_reducible refine (impl_MatchLoads.calls kj6 _ _ t101 t120 true _ ?side1 ?side2 A25.out).mono ?_);(case side1=>repeat (first|exact (Kd.N_reads' HO_5.out).2.2|(with_reducible refine Kd.Qj ?_ _)|(with_reducible refine Kd.Qk ?_ _)|(with_reducible refine Kd.C_drew ?_)));(case side2=>exact (Kd.N_reads' HO_5.out).2.1);rintro e w51 ⟨v122,rfl,ho0,hb⟩;refine ⟨_,rfl,?_⟩;have n0_:=aM (Kd.N_elder' (by (with_reducible repeat (first|apply Kd.N_alloc|apply Kd.N_drewN|apply Kd.N_drew));exact HO_5.out) (Kd.R_base ho0) hb);have n1_:=aM (Kd.R_elder' (by (with_reducible repeat (first|apply Kd.Qd|apply Kd.Qe|apply Kd.R_drew));exact HO_6.out) (Kd.R_base ho0) hb);have n2_:=aM (Kd.R_elder' (by (with_reducible repeat (first|apply Kd.Qd|apply Kd.Qe|apply Kd.R_drew));exact HO_7.out) (Kd.R_base ho0) hb);have n3_:=aM (Kd.R_lower (Kd.R_new' (Kd.R_new' ho0 (Kd.R_lt (by (with_reducible repeat (first|apply Kd.Qd|apply Kd.Qe|apply Kd.R_drew));exact HO_6.out))) (Kd.R_lt (by (with_reducible repeat (first|apply Kd.Qd|apply Kd.Qe|apply Kd.R_drew));exact HO_7.out))) (Ql (by repeat (first|(with_reducible first|exact HB.out|apply Qb|apply Qa|apply Qc)|exact HB.out))));have n4_:=aM (Qi (by repeat (first|(with_reducible first|exact HB.out|apply Qb|apply Qa|apply Qc)|exact HB.out)) hb);clear HO_5;clear HO_6;clear HO_7;clear HB;have HO_5:=n0_;have HO_6:=n1_;have HO_7:=n2_;have HO123:=n3_;have HB:=n4_;clear n0_ n1_ n2_ n3_ n4_;(try clear hb);(try clear hb2);(try clear hk);(try clear hi);(try clear ho0);obtain ⟨Ao52,co52,eo52⟩:=Kd.R_slice HO123.out;subst eo52)|((with_reducible refine Qh (f:=75) rfl ?_);refine goesL_ (some 72) rfl rfl Try.func75 (by kernel_rfl) rfl #[.slice Ao52 t120.length co52] rfl (by (try simp only [aD,aE,aF]);first|done|rfl|(simp only [aG,aH];rfl)) ?_;(with_reducible refine (impl_CountIn.calls kj6 _ _ t120 t124 true _ ?side1 ?side2 A26.out).mono ?_);(case side1=>repeat (first|exact (Kd.Qf HO123.out).2.2|(with_reducible refine Kd.Qj ?_ _)|(with_reducible refine Kd.Qk ?_ _)|(with_reducible refine Kd.C_drew ?_)));(case side2=>exact (Kd.Qf HO123.out).2.1);rintro e w53 ⟨rfl,hb⟩;refine ⟨_,rfl,?_⟩;have n0_:=aM (Kd.N_below (by (with_reducible repeat (first|apply Kd.N_alloc|apply Kd.N_drewN|apply Kd.N_drew));exact HO_5.out) hb);have n1_:=aM (Kd.R_below (by (with_reducible repeat (first|apply Kd.Qd|apply Kd.Qe|apply Kd.R_drew));exact HO_6.out) hb);have n2_:=aM (Kd.R_below (by (with_reducible repeat (first|apply Kd.Qd|apply Kd.Qe|apply Kd.R_drew));exact HO_7.out) hb);have n3_:=aM (Kd.R_below (by (with_reducible repeat (first|apply Kd.Qd|apply Kd.Qe|apply Kd.R_drew));exact HO123.out) hb);have n4_:=aM (Qi (by repeat (first|(with_reducible first|exact HB.out|apply Qb|apply Qa|apply Qc)|exact HB.out)) hb);clear HO_5;clear HO_6;clear HO_7;clear HO123;clear HB;have HO_5:=n0_;have HO_6:=n1_;have HO_7:=n2_;have HO123:=n3_;have HB:=n4_;clear n0_ n1_ n2_ n3_ n4_;(try clear hb);(try clear hb2);(try clear hk);(try clear hi);obtain ⟨Ao54,co54,eo54⟩:=Kd.R_slice HO_6.out;subst eo54;obtain ⟨Ao55,co55,eo55⟩:=Kd.R_slice HO_7.out;subst eo55)|((with_reducible refine Qh (f:=76) rfl ?_);refine goesL_ (some 79) rfl rfl Try.func76 (by kernel_rfl) rfl #[.slice Ao9 t101.length co9,.slice Ao54 t104.length co54,.slice Ao55 t105.length co55] rfl (by (try simp only [aD,aE,aF]);first|done|rfl|(simp only [aG,aH];rfl)) ?_;(with_reducible refine (impl_IsCover.calls kj6 _ _ t101 _ _ t104 _ _ t105 t126 t127 _ ?side1 ?side2 ?side3 ?side4 ?side5 ?side6 A27.out).mono ?_);(case side1=>repeat (first|exact (Kd.N_reads' HO_5.out).2.2|(with_reducible refine Kd.Qj ?_ _)|(with_reducible refine Kd.Qk ?_ _)|(with_reducible refine Kd.C_drew ?_)));(case side2=>exact (Kd.N_reads' HO_5.out).2.1);(case side3=>repeat (first|exact (Kd.Qf HO_6.out).2.2|(with_reducible refine Kd.Qj ?_ _)|(with_reducible refine Kd.Qk ?_ _)|(with_reducible refine Kd.C_drew ?_)));(case side4=>exact (Kd.Qf HO_6.out).2.1);(case side5=>repeat (first|exact (Kd.Qf HO_7.out).2.2|(with_reducible refine Kd.Qj ?_ _)|(with_reducible refine Kd.Qk ?_ _)|(with_reducible refine Kd.C_drew ?_)));(case side6=>exact (Kd.Qf HO_7.out).2.1);rintro e w56 ⟨rfl,hb⟩;refine ⟨_,rfl,?_⟩;have n0_:=aM (Kd.N_below (by (with_reducible repeat (first|apply Kd.N_alloc|apply Kd.N_drewN|apply Kd.N_drew));exact HO_5.out) hb);have n1_:=aM (Kd.R_below (by (with_reducible repeat (first|apply Kd.Qd|apply Kd.Qe|apply Kd.R_drew));exact HO_6.out) hb);have n2_:=aM (Kd.R_below (by (with_reducible repeat (first|apply Kd.Qd|apply Kd.Qe|apply Kd.R_drew));exact HO_7.out) hb);have n3_:=aM (Kd.R_below (by (with_reducible repeat (first|apply Kd.Qd|apply Kd.Qe|apply Kd.R_drew));exact HO123.out) hb);have n4_:=aM (Qi (by repeat (first|(with_reducible first|exact HB.out|apply Qb|apply Qa|apply Qc)|exact HB.out)) hb);clear HO_5;clear HO_6;clear HO_7;clear HO123;clear HB;have HO_5:=n0_;have HO_6:=n1_;have HO_7:=n2_;have HO123:=n3_;have HB:=n4_;clear n0_ n1_ n2_ n3_ n4_;(try clear hb);(try clear hb2);(try clear hk);(try clear hi)))
            go_ret
            exact ⟨by first|rfl|(simp [errW_none,errW_some] <;> rfl)|(simp [*,errW_none,errW_some] <;> rfl),by repeat (first|(with_reducible first|exact HB.out|apply Qb|apply Qa|apply Qc)|exact HB.out)⟩
         ·replace c29:=Bool.eq_false_iff.mpr c29;subst c29;have H1:(some false)=some r:=by rw [if_neg (show ¬ (false=true) by decide)] at H;exact H
          clear H;have H:=H1;clear H1
          as_aux_lemma=>
           obtain rfl:=Option.some.inj H;go_wp2_with (first|((with_reducible refine Qh (f:=60) rfl ?_);refine goesL_ (some 67) rfl rfl Try.func60 (by kernel_rfl) rfl #[.slice Ao9 t101.length co9] rfl (by (try simp only [aD,aE,aF]);first|done|rfl|(simp only [aG,aH];rfl)) ?_;(with_reducible refine (impl_MatchLoads.calls kj6 _ _ t101 t120 true _ ?side1 ?side2 A25.out).mono ?_);(case side1=>repeat (first|exact (Kd.N_reads' HO_5.out).2.2|(with_reducible refine Kd.Qj ?_ _)|(with_reducible refine Kd.Qk ?_ _)|(with_reducible refine Kd.C_drew ?_)));(case side2=>exact (Kd.N_reads' HO_5.out).2.1);rintro e w57 ⟨v122,rfl,ho0,hb⟩;refine ⟨_,rfl,?_⟩;have n0_:=aM (Kd.N_elder' (by (with_reducible repeat (first|apply Kd.N_alloc|apply Kd.N_drewN|apply Kd.N_drew));exact HO_5.out) (Kd.R_base ho0) hb);have n1_:=aM (Kd.R_elder' (by (with_reducible repeat (first|apply Kd.Qd|apply Kd.Qe|apply Kd.R_drew));exact HO_6.out) (Kd.R_base ho0) hb);have n2_:=aM (Kd.R_elder' (by (with_reducible repeat (first|apply Kd.Qd|apply Kd.Qe|apply Kd.R_drew));exact HO_7.out) (Kd.R_base ho0) hb);have n3_:=aM (Kd.R_lower (Kd.R_new' (Kd.R_new' ho0 (Kd.R_lt (by (with_reducible repeat (first|apply Kd.Qd|apply Kd.Qe|apply Kd.R_drew));exact HO_6.out))) (Kd.R_lt (by (with_reducible repeat (first|apply Kd.Qd|apply Kd.Qe|apply Kd.R_drew));exact HO_7.out))) (Ql (by repeat (first|(with_reducible first|exact HB.out|apply Qb|apply Qa|apply Qc)|exact HB.out))));have n4_:=aM (Qi (by repeat (first|(with_reducible first|exact HB.out|apply Qb|apply Qa|apply Qc)|exact HB.out)) hb);clear HO_5;clear HO_6;clear HO_7;clear HB;have HO_5:=n0_;have HO_6:=n1_;have HO_7:=n2_;have HO123:=n3_;have HB:=n4_;clear n0_ n1_ n2_ n3_ n4_;(try clear hb);(try clear hb2);(try clear hk);(try clear hi);(try clear ho0);obtain ⟨Ao58,co58,eo58⟩:=Kd.R_slice HO123.out;subst eo58)|((with_reducible refine Qh (f:=75) rfl ?_);refine goesL_ (some 72) rfl rfl Try.func75 (by kernel_rfl) rfl #[.slice Ao58 t120.length co58] rfl (by (try simp only [aD,aE,aF]);first|done|rfl|(simp only [aG,aH];rfl)) ?_;(with_reducible refine (impl_CountIn.calls kj6 _ _ t120 t124 false _ ?side1 ?side2 A26.out).mono ?_);(case side1=>repeat (first|exact (Kd.Qf HO123.out).2.2|(with_reducible refine Kd.Qj ?_ _)|(with_reducible refine Kd.Qk ?_ _)|(with_reducible refine Kd.C_drew ?_)));(case side2=>exact (Kd.Qf HO123.out).2.1);rintro e w59 ⟨rfl,hb⟩;refine ⟨_,rfl,?_⟩;have n0_:=aM (Kd.N_below (by (with_reducible repeat (first|apply Kd.N_alloc|apply Kd.N_drewN|apply Kd.N_drew));exact HO_5.out) hb);have n1_:=aM (Kd.R_below (by (with_reducible repeat (first|apply Kd.Qd|apply Kd.Qe|apply Kd.R_drew));exact HO_6.out) hb);have n2_:=aM (Kd.R_below (by (with_reducible repeat (first|apply Kd.Qd|apply Kd.Qe|apply Kd.R_drew));exact HO_7.out) hb);have n3_:=aM (Kd.R_below (by (with_reducible repeat (first|apply Kd.Qd|apply Kd.Qe|apply Kd.R_drew));exact HO123.out) hb);have n4_:=aM (Qi (by repeat (first|(with_reducible first|exact HB.out|apply Qb|apply Qa|apply Qc)|exact HB.out)) hb);clear HO_5;clear HO_6;clear HO_7;clear HO123;clear HB;have HO_5:=n0_;have HO_6:=n1_;have HO_7:=n2_;have HO123:=n3_;have HB:=n4_;clear n0_ n1_ n2_ n3_ n4_;(try clear hb);(try clear hb2);(try clear hk);(try clear hi);obtain ⟨Ao60,co60,eo60⟩:=Kd.R_slice HO_6.out;subst eo60;obtain ⟨Ao61,co61,eo61⟩:=Kd.R_slice HO_7.out;subst eo61)|((with_reducible refine Qh (f:=76) rfl ?_);refine goesL_ (some 79) rfl rfl Try.func76 (by kernel_rfl) rfl #[.slice Ao9 t101.length co9,.slice Ao60 t104.length co60,.slice Ao61 t105.length co61] rfl (by (try simp only [aD,aE,aF]);first|done|rfl|(simp only [aG,aH];rfl)) ?_;(with_reducible refine (impl_IsCover.calls kj6 _ _ t101 _ _ t104 _ _ t105 t126 t127 _ ?side1 ?side2 ?side3 ?side4 ?side5 ?side6 A27.out).mono ?_);(case side1=>repeat (first|exact (Kd.N_reads' HO_5.out).2.2|(with_reducible refine Kd.Qj ?_ _)|(with_reducible refine Kd.Qk ?_ _)|(with_reducible refine Kd.C_drew ?_)));(case side2=>exact (Kd.N_reads' HO_5.out).2.1);(case side3=>repeat (first|exact (Kd.Qf HO_6.out).2.2|(with_reducible refine Kd.Qj ?_ _)|(with_reducible refine Kd.Qk ?_ _)|(with_reducible refine Kd.C_drew ?_)));(case side4=>exact (Kd.Qf HO_6.out).2.1);(case side5=>repeat (first|exact (Kd.Qf HO_7.out).2.2|(with_reducible refine Kd.Qj ?_ _)|(with_reducible refine Kd.Qk ?_ _)|(with_reducible refine Kd.C_drew ?_)));(case side6=>exact (Kd.Qf HO_7.out).2.1);rintro e w62 ⟨rfl,hb⟩;refine ⟨_,rfl,?_⟩;have n0_:=aM (Kd.N_below (by (with_reducible repeat (first|apply Kd.N_alloc|apply Kd.N_drewN|apply Kd.N_drew));exact HO_5.out) hb);have n1_:=aM (Kd.R_below (by (with_reducible repeat (first|apply Kd.Qd|apply Kd.Qe|apply Kd.R_drew));exact HO_6.out) hb);have n2_:=aM (Kd.R_below (by (with_reducible repeat (first|apply Kd.Qd|apply Kd.Qe|apply Kd.R_drew));exact HO_7.out) hb);have n3_:=aM (Kd.R_below (by (with_reducible repeat (first|apply Kd.Qd|apply Kd.Qe|apply Kd.R_drew));exact HO123.out) hb);have n4_:=aM (Qi (by repeat (first|(with_reducible first|exact HB.out|apply Qb|apply Qa|apply Qc)|exact HB.out)) hb);clear HO_5;clear HO_6;clear HO_7;clear HO123;clear HB;have HO_5:=n0_;have HO_6:=n1_;have HO_7:=n2_;have HO123:=n3_;have HB:=n4_;clear n0_ n1_ n2_ n3_ n4_;(try clear hb);(try clear hb2);(try clear hk);(try clear hi)))
           go_ret
           exact ⟨by first|rfl|(simp [errW_none,errW_some] <;> rfl)|(simp [*,errW_none,errW_some] <;> rfl),by repeat (first|(with_reducible first|exact HB.out|apply Qb|apply Qa|apply Qc)|exact HB.out)⟩
        ·replace c28:=Bool.eq_false_iff.mpr c28;subst c28;have H1:(some false)=some r:=by rw [if_neg (show ¬ (false=true) by decide)] at H;exact H
         clear H;have H:=H1;clear H1
         as_aux_lemma=>
          obtain rfl:=Option.some.inj H;go_wp2_with (first|((with_reducible refine Qh (f:=60) rfl ?_);refine goesL_ (some 67) rfl rfl Try.func60 (by kernel_rfl) rfl #[.slice Ao9 t101.length co9] rfl (by (try simp only [aD,aE,aF]);first|done|rfl|(simp only [aG,aH];rfl)) ?_;(with_reducible refine (impl_MatchLoads.calls kj6 _ _ t101 t120 false _ ?side1 ?side2 A25.out).mono ?_);(case side1=>repeat (first|exact (Kd.N_reads' HO_5.out).2.2|(with_reducible refine Kd.Qj ?_ _)|(with_reducible refine Kd.Qk ?_ _)|(with_reducible refine Kd.C_drew ?_)));(case side2=>exact (Kd.N_reads' HO_5.out).2.1);rintro e w63 ⟨v122,rfl,ho0,hb⟩;refine ⟨_,rfl,?_⟩;have n0_:=aM (Kd.N_elder' (by (with_reducible repeat (first|apply Kd.N_alloc|apply Kd.N_drewN|apply Kd.N_drew));exact HO_5.out) (Kd.R_base ho0) hb);have n1_:=aM (Kd.R_elder' (by (with_reducible repeat (first|apply Kd.Qd|apply Kd.Qe|apply Kd.R_drew));exact HO_6.out) (Kd.R_base ho0) hb);have n2_:=aM (Kd.R_elder' (by (with_reducible repeat (first|apply Kd.Qd|apply Kd.Qe|apply Kd.R_drew));exact HO_7.out) (Kd.R_base ho0) hb);have n3_:=aM (Kd.R_lower (Kd.R_new' (Kd.R_new' ho0 (Kd.R_lt (by (with_reducible repeat (first|apply Kd.Qd|apply Kd.Qe|apply Kd.R_drew));exact HO_6.out))) (Kd.R_lt (by (with_reducible repeat (first|apply Kd.Qd|apply Kd.Qe|apply Kd.R_drew));exact HO_7.out))) (Ql (by repeat (first|(with_reducible first|exact HB.out|apply Qb|apply Qa|apply Qc)|exact HB.out))));have n4_:=aM (Qi (by repeat (first|(with_reducible first|exact HB.out|apply Qb|apply Qa|apply Qc)|exact HB.out)) hb);clear HO_5;clear HO_6;clear HO_7;clear HB;have HO_5:=n0_;have HO_6:=n1_;have HO_7:=n2_;have HO123:=n3_;have HB:=n4_;clear n0_ n1_ n2_ n3_ n4_;(try clear hb);(try clear hb2);(try clear hk);(try clear hi);(try clear ho0);obtain ⟨Ao64,co64,eo64⟩:=Kd.R_slice HO123.out;subst eo64)|((with_reducible refine Qh (f:=75) rfl ?_);refine goesL_ (some 72) rfl rfl Try.func75 (by kernel_rfl) rfl #[.slice Ao64 t120.length co64] rfl (by (try simp only [aD,aE,aF]);first|done|rfl|(simp only [aG,aH];rfl)) ?_;(with_reducible refine (impl_CountIn.calls kj6 _ _ t120 t124 t125 _ ?side1 ?side2 A26.out).mono ?_);(case side1=>repeat (first|exact (Kd.Qf HO123.out).2.2|(with_reducible refine Kd.Qj ?_ _)|(with_reducible refine Kd.Qk ?_ _)|(with_reducible refine Kd.C_drew ?_)));(case side2=>exact (Kd.Qf HO123.out).2.1);rintro e w65 ⟨rfl,hb⟩;refine ⟨_,rfl,?_⟩;have n0_:=aM (Kd.N_below (by (with_reducible repeat (first|apply Kd.N_alloc|apply Kd.N_drewN|apply Kd.N_drew));exact HO_5.out) hb);have n1_:=aM (Kd.R_below (by (with_reducible repeat (first|apply Kd.Qd|apply Kd.Qe|apply Kd.R_drew));exact HO_6.out) hb);have n2_:=aM (Kd.R_below (by (with_reducible repeat (first|apply Kd.Qd|apply Kd.Qe|apply Kd.R_drew));exact HO_7.out) hb);have n3_:=aM (Kd.R_below (by (with_reducible repeat (first|apply Kd.Qd|apply Kd.Qe|apply Kd.R_drew));exact HO123.out) hb);have n4_:=aM (Qi (by repeat (first|(with_reducible first|exact HB.out|apply Qb|apply Qa|apply Qc)|exact HB.out)) hb);clear HO_5;clear HO_6;clear HO_7;clear HO123;clear HB;have HO_5:=n0_;have HO_6:=n1_;have HO_7:=n2_;have HO123:=n3_;have HB:=n4_;clear n0_ n1_ n2_ n3_ n4_;(try clear hb);(try clear hb2);(try clear hk);(try clear hi);obtain ⟨Ao66,co66,eo66⟩:=Kd.R_slice HO_6.out;subst eo66;obtain ⟨Ao67,co67,eo67⟩:=Kd.R_slice HO_7.out;subst eo67)|((with_reducible refine Qh (f:=76) rfl ?_);refine goesL_ (some 79) rfl rfl Try.func76 (by kernel_rfl) rfl #[.slice Ao9 t101.length co9,.slice Ao66 t104.length co66,.slice Ao67 t105.length co67] rfl (by (try simp only [aD,aE,aF]);first|done|rfl|(simp only [aG,aH];rfl)) ?_;(with_reducible refine (impl_IsCover.calls kj6 _ _ t101 _ _ t104 _ _ t105 t126 t127 _ ?side1 ?side2 ?side3 ?side4 ?side5 ?side6 A27.out).mono ?_);(case side1=>repeat (first|exact (Kd.N_reads' HO_5.out).2.2|(with_reducible refine Kd.Qj ?_ _)|(with_reducible refine Kd.Qk ?_ _)|(with_reducible refine Kd.C_drew ?_)));(case side2=>exact (Kd.N_reads' HO_5.out).2.1);(case side3=>repeat (first|exact (Kd.Qf HO_6.out).2.2|(with_reducible refine Kd.Qj ?_ _)|(with_reducible refine Kd.Qk ?_ _)|(with_reducible refine Kd.C_drew ?_)));(case side4=>exact (Kd.Qf HO_6.out).2.1);(case side5=>repeat (first|exact (Kd.Qf HO_7.out).2.2|(with_reducible refine Kd.Qj ?_ _)|(with_reducible refine Kd.Qk ?_ _)|(with_reducible refine Kd.C_drew ?_)));(case side6=>exact (Kd.Qf HO_7.out).2.1);rintro e w68 ⟨rfl,hb⟩;refine ⟨_,rfl,?_⟩;have n0_:=aM (Kd.N_below (by (with_reducible repeat (first|apply Kd.N_alloc|apply Kd.N_drewN|apply Kd.N_drew));exact HO_5.out) hb);have n1_:=aM (Kd.R_below (by (with_reducible repeat (first|apply Kd.Qd|apply Kd.Qe|apply Kd.R_drew));exact HO_6.out) hb);have n2_:=aM (Kd.R_below (by (with_reducible repeat (first|apply Kd.Qd|apply Kd.Qe|apply Kd.R_drew));exact HO_7.out) hb);have n3_:=aM (Kd.R_below (by (with_reducible repeat (first|apply Kd.Qd|apply Kd.Qe|apply Kd.R_drew));exact HO123.out) hb);have n4_:=aM (Qi (by repeat (first|(with_reducible first|exact HB.out|apply Qb|apply Qa|apply Qc)|exact HB.out)) hb);clear HO_5;clear HO_6;clear HO_7;clear HO123;clear HB;have HO_5:=n0_;have HO_6:=n1_;have HO_7:=n2_;have HO123:=n3_;have HB:=n4_;clear n0_ n1_ n2_ n3_ n4_;(try clear hb);(try clear hb2);(try clear hk);(try clear hi)))
          go_ret
          exact ⟨by first|rfl|(simp [errW_none,errW_some] <;> rfl)|(simp [*,errW_none,errW_some] <;> rfl),by repeat (first|(with_reducible first|exact HB.out|apply Qb|apply Qa|apply Qc)|exact HB.out)⟩
       ·replace c24:=Bool.eq_false_iff.mpr c24;subst c24;have H1:(laws_FnCovers.j1 kj6 l1)=some r:=by rw [if_neg (show ¬ (false=true) by decide)] at H;exact H
        clear H;have H:=H1;clear H1
        as_aux_lemma=>
         have H':=aM H;clear H;go_wp2
         go_meet
         case rel=>exact ⟨_,H',⟨by have:=HJ6.out;first|omega|exact Nat.le_refl _⟩,⟨by repeat (first|(with_reducible first|exact HB.out|apply Qb|apply Qa|apply Qc)|exact HB.out)⟩⟩
      case rest=>
       clear HC23;(try clear c1);(try clear c2);(try clear p2);(try clear c3);(try clear c3b0);(try clear c6);(try clear p6);(try clear c7);(try clear c11);(try clear c12);(try clear c12b0);(try clear c12b1);(try clear c12b2);(try clear c14);(try clear c22);(try clear c24);(try clear c28);(try clear c29);(try clear c30);(try clear c30b0);(try clear c30b1);(try clear c31);(try clear c32);(try clear c60);(try clear p64);(try clear p2);(try clear p6);obtain ⟨kq,HA,HJ22,HB⟩:=hcut
       cases kq with
       |zero=>exact absurd HA.out (by simp [laws_FnCovers.j1])
       |succ kj22=>
        have H:=HA.out;clear HA;simp only [laws_FnCovers.j1] at H;replace H:=Option.bind_eq_some_iff.mp H;obtain ⟨⟨t128,t131,t134⟩,A690,H⟩:=H;replace H:((impl_IsCover.f kj22 t128 t131 t134).bind fun bt137=>((spec_IsCover.f kj22 t128 t131 t134).bind fun bt139=>(if (bt137.2 != bt139.2)=true then (laws_FnCovers.j2 kj22 t128 t131 t134 bt137.1 bt137.2 true) else (laws_FnCovers.j2 kj22 t128 t131 t134 bt137.1 bt137.2 (bt137.1 != bt139.1)))))=some r:=H;have A69:=aM A690;clear A690;replace H:=Option.bind_eq_some_iff.mp H;obtain ⟨⟨t137,t138⟩,A700,H⟩:=H;replace H:((spec_IsCover.f kj22 t128 t131 t134).bind fun bt139=>(if (t138 != bt139.2)=true then (laws_FnCovers.j2 kj22 t128 t131 t134 t137 t138 true) else (laws_FnCovers.j2 kj22 t128 t131 t134 t137 t138 (t137 != bt139.1))))=some r:=H;have A70:=aM A700;clear A700;replace H:=Option.bind_eq_some_iff.mp H;obtain ⟨⟨t139,t140⟩,A710,H⟩:=H;replace H:(if (t138 != t140)=true then (laws_FnCovers.j2 kj22 t128 t131 t134 t137 t138 true) else (laws_FnCovers.j2 kj22 t128 t131 t134 t137 t138 (t137 != t139)))=some r:=H;have A71:=aM A710;clear A710;have HC72:=aM H;clear H
        go_upto_region 17 with (first|((with_reducible refine Qh (f:=77) rfl ?_);refine goesL_ (some 107) rfl rfl Try.func77 (by kernel_rfl) rfl #[.slice A1 l1.length c1] rfl (by (try simp only [aD,aE,aF]);first|done|rfl|(simp only [aG,aH];rfl)) ?_;(with_reducible refine (spec_DrawIsCover.calls kj22 _ _ l1 t128 t131 t134 _ ?side1 ?side2 A69.out).mono ?_);(case side1=>repeat (first|exact (Kd.C_below HR1.out HB.out)|(with_reducible refine Kd.Qj ?_ _)|(with_reducible refine Kd.Qk ?_ _)|(with_reducible refine Kd.C_drew ?_)));(case side2=>exact HC1.out);rintro e w73 ⟨v129,v132,v135,rfl,ho0,ho1,ho2,hb⟩;refine ⟨_,rfl,?_⟩;have n0_:=aM (Kd.N_lower (Kd.N_mono (ok':=fun k_=>some k_≠(v132:Value).ownBlock∧some k_≠(v135:Value).ownBlock) ho0 (fun k_ hk_=>⟨hk_.2.1,hk_.2.2⟩)) (Ql (by repeat (first|(with_reducible first|exact HB.out|apply Qb|apply Qa|apply Qc)|exact HB.out))));have n1_:=aM (Kd.Q_lower (Kd.Q_mono (ok':=fun k_=>some k_≠(v135:Value).ownBlock) ho1 (fun _ hk_=>hk_.2)) (Ql (by repeat (first|(with_reducible first|exact HB.out|apply Qb|apply Qa|apply Qc)|exact HB.out))));have n2_:=aM (Kd.R_lower (Kd.R_mono (ok':=fun k_=>some k_≠(v132:Value).ownBlock) ho2 (fun _ hk_=>hk_.2)) (Ql (by repeat (first|(with_reducible first|exact HB.out|apply Qb|apply Qa|apply Qc)|exact HB.out))));have n3_:=aM (Qi (by repeat (first|(with_reducible first|exact HB.out|apply Qb|apply Qa|apply Qc)|exact HB.out)) hb);clear HB;have HO130:=n0_;have HO133:=n1_;have HO136:=n2_;have HB:=n3_;clear n0_ n1_ n2_ n3_;(try clear hb);(try clear hb2);(try clear hk);(try clear hi);(try clear ho0);(try clear ho1);(try clear ho2);obtain ⟨Ao74,co74,eo74⟩:=Kd.N_slice HO130.out;subst eo74;obtain ⟨Ao75,co75,eo75,_⟩:=Kd.Q_slice HO133.out;subst eo75;obtain ⟨Ao76,co76,eo76⟩:=Kd.R_slice HO136.out;subst eo76)|((with_reducible refine Qh (f:=76) rfl ?_);refine goesL_ (some 115) rfl rfl Try.func76 (by kernel_rfl) rfl #[.slice Ao74 t128.length co74,.slice Ao75 t131.length co75,.slice Ao76 t134.length co76] rfl (by (try simp only [aD,aE,aF]);first|done|rfl|(simp only [aG,aH];rfl)) ?_;(with_reducible refine (impl_IsCover.calls kj22 _ _ t128 _ _ t131 _ _ t134 t137 t138 _ ?side1 ?side2 ?side3 ?side4 ?side5 ?side6 A70.out).mono ?_);(case side1=>repeat (first|exact (Kd.N_reads' HO130.out).2.2|(with_reducible refine Kd.Qj ?_ _)|(with_reducible refine Kd.Qk ?_ _)|(with_reducible refine Kd.C_drew ?_)));(case side2=>exact (Kd.N_reads' HO130.out).2.1);(case side3=>repeat (first|exact (Kd.Q_reads' HO133.out).2.2|(with_reducible refine Kd.Qj ?_ _)|(with_reducible refine Kd.Qk ?_ _)|(with_reducible refine Kd.C_drew ?_)));(case side4=>exact (Kd.Q_reads' HO133.out).2.1);(case side5=>repeat (first|exact (Kd.Qf HO136.out).2.2|(with_reducible refine Kd.Qj ?_ _)|(with_reducible refine Kd.Qk ?_ _)|(with_reducible refine Kd.C_drew ?_)));(case side6=>exact (Kd.Qf HO136.out).2.1);rintro e w77 ⟨rfl,hb⟩;refine ⟨_,rfl,?_⟩;have n0_:=aM (Kd.N_below (by (with_reducible repeat (first|apply Kd.N_alloc|apply Kd.N_drewN|apply Kd.N_drew));exact HO130.out) hb);have n1_:=aM (Kd.Q_below (by (with_reducible repeat (first|apply Kd.Q_alloc|apply Kd.Q_drewN|apply Kd.Q_drew));exact HO133.out) hb);have n2_:=aM (Kd.R_below (by (with_reducible repeat (first|apply Kd.Qd|apply Kd.Qe|apply Kd.R_drew));exact HO136.out) hb);have n3_:=aM (Qi (by repeat (first|(with_reducible first|exact HB.out|apply Qb|apply Qa|apply Qc)|exact HB.out)) hb);clear HO130;clear HO133;clear HO136;clear HB;have HO130:=n0_;have HO133:=n1_;have HO136:=n2_;have HB:=n3_;clear n0_ n1_ n2_ n3_;(try clear hb);(try clear hb2);(try clear hk);(try clear hi))|((with_reducible refine Qh (f:=78) rfl ?_);refine goesL_ (some 122) rfl rfl Try.func78 (by kernel_rfl) rfl #[.slice Ao74 t128.length co74,.slice Ao75 t131.length co75,.slice Ao76 t134.length co76] rfl (by (try simp only [aD,aE,aF]);first|done|rfl|(simp only [aG,aH];rfl)) ?_;(with_reducible refine (spec_IsCover.calls kj22 _ _ t128 _ _ t131 _ _ t134 t139 t140 _ ?side1 ?side2 ?side3 ?side4 ?side5 ?side6 A71.out).mono ?_);(case side1=>repeat (first|exact (Kd.N_reads' HO130.out).2.2|(with_reducible refine Kd.Qj ?_ _)|(with_reducible refine Kd.Qk ?_ _)|(with_reducible refine Kd.C_drew ?_)));(case side2=>exact (Kd.N_reads' HO130.out).2.1);(case side3=>repeat (first|exact (Kd.Q_reads' HO133.out).2.2|(with_reducible refine Kd.Qj ?_ _)|(with_reducible refine Kd.Qk ?_ _)|(with_reducible refine Kd.C_drew ?_)));(case side4=>exact (Kd.Q_reads' HO133.out).2.1);(case side5=>repeat (first|exact (Kd.Qf HO136.out).2.2|(with_reducible refine Kd.Qj ?_ _)|(with_reducible refine Kd.Qk ?_ _)|(with_reducible refine Kd.C_drew ?_)));(case side6=>exact (Kd.Qf HO136.out).2.1);rintro e w' ⟨rfl,⟨nd,rfl⟩⟩;refine ⟨_,rfl,?_⟩))
        (try simp only [Act.put,aA,aB,aC])
        go_cut [132] (fun v132 wc=>∃ (kq:Nat) (x132_71:Bool),v132= .bool x132_71∧Aside0 (laws_FnCovers.j2 kq t128 t131 t134 t137 t138 x132_71=some r)∧Aside0 (kq≤kj22)∧Aside0 (Kd.N (Kd.slice 4 Kd.bool) 88 wc w.heap.size (fun k_=>some k_≠((.slice Ao75 t131.length co75):Value).ownBlock∧some k_≠((.slice Ao76 t134.length co76):Value).ownBlock) (.slice Ao74 t128.length co74) t128)∧Aside0 (Kd.Q (Kd.int .i64) 3 wc w.heap.size (fun k_=>some k_≠((.slice Ao76 t134.length co76):Value).ownBlock) (.slice Ao75 t131.length co75) t131)∧Aside0 (Kd.R (Kd.int .i64) 3 wc w.heap.size (fun k_=>some k_≠((.slice Ao75 t131.length co75):Value).ownBlock) (.slice Ao76 t134.length co76) t134)∧Aside0 (Below w.heap.size w wc))
        case first=>
         have H:=HC72.out;clear HC72;by_cases c78:(t138 != t140)=true
         ·rw [if_pos c78] at H;have c78b0:(t138 != t140)=true:=c78;(try (have c78b1:decide (t138=t140)=false:=by simpa using c78));(try (have c78b2:(t138 == t140)=false:=by simpa using c78));(try (have c78b3: ¬ (t138=t140):=by simpa using c78));clear c78
          (first|rw [c78b0]|(simp only [i64_w,i32_w];rw [c78b0])|skip)
          as_aux_lemma=>
           have H':=aM H;clear H;go_wp2
           go_meet
           case rel=>exact ⟨_,(true),(by first|rfl|(simp;done)|(simp [*];done)),H',⟨by have:=HJ6.out;have:=HJ22.out;first|omega|exact Nat.le_refl _⟩,⟨by (with_reducible repeat (first|apply Kd.N_alloc|apply Kd.N_drewN|apply Kd.N_drew));exact HO130.out⟩,⟨by (with_reducible repeat (first|apply Kd.Q_alloc|apply Kd.Q_drewN|apply Kd.Q_drew));exact HO133.out⟩,⟨by (with_reducible repeat (first|apply Kd.Qd|apply Kd.Qe|apply Kd.R_drew));exact HO136.out⟩,⟨by repeat (first|(with_reducible first|exact HB.out|apply Qb|apply Qa|apply Qc)|exact HB.out)⟩⟩
         ·rw [if_neg c78] at H;have c78b0:(t138 != t140)=false:=by simpa using c78
          (try (have c78b1:decide (t138=t140)=true:=by simpa using c78));(try (have c78b2:(t138 == t140)=true:=by simpa using c78));clear c78
          (first|rw [c78b0]|(simp only [i64_w,i32_w];rw [c78b0])|skip)
          as_aux_lemma=>
           have H':=aM H;clear H;go_wp2
           go_meet
           case rel=>exact ⟨_,((t137 != t139)),(by first|rfl|(simp;done)|(simp [*];done)),H',⟨by have:=HJ6.out;have:=HJ22.out;first|omega|exact Nat.le_refl _⟩,⟨by (with_reducible repeat (first|apply Kd.N_alloc|apply Kd.N_drewN|apply Kd.N_drew));exact HO130.out⟩,⟨by (with_reducible repeat (first|apply Kd.Q_alloc|apply Kd.Q_drewN|apply Kd.Q_drew));exact HO133.out⟩,⟨by (with_reducible repeat (first|apply Kd.Qd|apply Kd.Qe|apply Kd.R_drew));exact HO136.out⟩,⟨by repeat (first|(with_reducible first|exact HB.out|apply Qb|apply Qa|apply Qc)|exact HB.out)⟩⟩
        case rest=>
         clear HC72;(try clear c1);(try clear c2);(try clear p2);(try clear c3);(try clear c3b0);(try clear c6);(try clear p6);(try clear c7);(try clear c11);(try clear c12);(try clear c12b0);(try clear c12b1);(try clear c12b2);(try clear c14);(try clear c22);(try clear c24);(try clear c28);(try clear c29);(try clear c30);(try clear c30b0);(try clear c30b1);(try clear c31);(try clear c32);(try clear c60);(try clear p64);(try clear c70);(try clear c71);(try clear c74);(try clear c75);(try clear c76);(try clear c77);(try clear c78);(try clear c78b0);(try clear c78b1);(try clear c78b2);(try clear p2);(try clear p6);(try clear p64);obtain ⟨kq,x132_71,rfl,HA,HJ71,HO_18,HO_19,HO_20,HB⟩:=hcut
         cases kq with
         |zero=>exact absurd HA.out (by simp [laws_FnCovers.j2])
         |succ kj71=>
          have H:=HA.out;clear HA;simp only [laws_FnCovers.j2] at H;by_cases c79:x132_71=true
          ·subst c79;have H1:(some false)=some r:=by rw [if_pos rfl] at H;exact H
           clear H;have H:=H1;clear H1
           as_aux_lemma=>
            obtain rfl:=Option.some.inj H;go_wp2
            go_ret
            exact ⟨by first|rfl|(simp [errW_none,errW_some] <;> rfl)|(simp [*,errW_none,errW_some] <;> rfl),by repeat (first|(with_reducible first|exact HB.out|apply Qb|apply Qa|apply Qc)|exact HB.out)⟩
          ·replace c79:=Bool.eq_false_iff.mpr c79;subst c79;have H1:(if t138=true then (laws_FnCovers.j3 kj71 t128 t131 t134 t137) else (laws_FnCovers.j3 kj71 t128 t131 t134 false))=some r:=by rw [if_neg (show ¬ (false=true) by decide)] at H;exact H
           clear H;have H:=H1;clear H1;have HC80:=aM H;clear H
           go_upto_region 19 with (fail)
           go_cut [136] (fun v136 wc=>∃ (kq:Nat) (x136_79:Bool),v136= .bool x136_79∧Aside0 (laws_FnCovers.j3 kq t128 t131 t134 x136_79=some r)∧Aside0 (kq≤kj71)∧Aside0 (Kd.N (Kd.slice 4 Kd.bool) 88 wc w.heap.size (fun k_=>some k_≠((.slice Ao75 t131.length co75):Value).ownBlock∧some k_≠((.slice Ao76 t134.length co76):Value).ownBlock) (.slice Ao74 t128.length co74) t128)∧Aside0 (Kd.Q (Kd.int .i64) 3 wc w.heap.size (fun k_=>some k_≠((.slice Ao76 t134.length co76):Value).ownBlock) (.slice Ao75 t131.length co75) t131)∧Aside0 (Kd.R (Kd.int .i64) 3 wc w.heap.size (fun k_=>some k_≠((.slice Ao75 t131.length co75):Value).ownBlock) (.slice Ao76 t134.length co76) t134)∧Aside0 (Below w.heap.size w wc))
           case first=>
            have H:=HC80.out;clear HC80;by_cases c81:t138=true
            ·subst c81;have H1:(laws_FnCovers.j3 kj71 t128 t131 t134 t137)=some r:=by rw [if_pos rfl] at H;exact H
             clear H;have H:=H1;clear H1
             as_aux_lemma=>
              have H':=aM H;clear H;go_wp2
              go_meet
              case rel=>exact ⟨_,(t137),(by first|rfl|(simp;done)|(simp [*];done)),H',⟨by have:=HJ6.out;have:=HJ22.out;have:=HJ71.out;first|omega|exact Nat.le_refl _⟩,⟨by (with_reducible repeat (first|apply Kd.N_alloc|apply Kd.N_drewN|apply Kd.N_drew));exact HO_18.out⟩,⟨by (with_reducible repeat (first|apply Kd.Q_alloc|apply Kd.Q_drewN|apply Kd.Q_drew));exact HO_19.out⟩,⟨by (with_reducible repeat (first|apply Kd.Qd|apply Kd.Qe|apply Kd.R_drew));exact HO_20.out⟩,⟨by repeat (first|(with_reducible first|exact HB.out|apply Qb|apply Qa|apply Qc)|exact HB.out)⟩⟩
            ·replace c81:=Bool.eq_false_iff.mpr c81;subst c81;have H1:(laws_FnCovers.j3 kj71 t128 t131 t134 false)=some r:=by rw [if_neg (show ¬ (false=true) by decide)] at H;exact H
             clear H;have H:=H1;clear H1
             as_aux_lemma=>
              have H':=aM H;clear H;go_wp2
              go_meet
              case rel=>exact ⟨_,(false),(by first|rfl|(simp;done)|(simp [*];done)),H',⟨by have:=HJ6.out;have:=HJ22.out;have:=HJ71.out;first|omega|exact Nat.le_refl _⟩,⟨by (with_reducible repeat (first|apply Kd.N_alloc|apply Kd.N_drewN|apply Kd.N_drew));exact HO_18.out⟩,⟨by (with_reducible repeat (first|apply Kd.Q_alloc|apply Kd.Q_drewN|apply Kd.Q_drew));exact HO_19.out⟩,⟨by (with_reducible repeat (first|apply Kd.Qd|apply Kd.Qe|apply Kd.R_drew));exact HO_20.out⟩,⟨by repeat (first|(with_reducible first|exact HB.out|apply Qb|apply Qa|apply Qc)|exact HB.out)⟩⟩
           case rest=>
            clear HC80;(try clear c1);(try clear c2);(try clear p2);(try clear c3);(try clear c3b0);(try clear c6);(try clear p6);(try clear c7);(try clear c8);(try clear c11);(try clear c12);(try clear c12b0);(try clear c12b1);(try clear c12b2);(try clear c14);(try clear c22);(try clear c24);(try clear c28);(try clear c29);(try clear c30);(try clear c30b0);(try clear c30b1);(try clear c31);(try clear c32);(try clear c60);(try clear p64);(try clear c70);(try clear c71);(try clear c74);(try clear c75);(try clear c76);(try clear c77);(try clear c78);(try clear c78b0);(try clear c78b1);(try clear c78b2);(try clear c79);(try clear c81);(try clear p2);(try clear p6);(try clear p64);obtain ⟨kq,x136_79,rfl,HA,HJ79,HO_18,HO_19,HO_20,HB⟩:=hcut
            cases kq with
            |zero=>exact absurd HA.out (by simp [laws_FnCovers.j3])
            |succ kj79=>
             have H:=HA.out;clear HA;simp only [laws_FnCovers.j3] at H;by_cases c82:x136_79=true
             ·subst c82;have H1:((impl_MatchLoads.f kj79 t128).bind fun bt141=>((impl_CountIn.f kj79 bt141.1).bind fun bt145=>(if bt141.2=true then (if bt145.2=true then (some (decide (bt145.1≤(wrap64 ((t131.length:Int)+(t134.length:Int)))))) else (some false)) else (some false))))=some r:=by rw [if_pos rfl] at H;exact H
              clear H;have H:=H1;clear H1;replace H:=Option.bind_eq_some_iff.mp H;obtain ⟨⟨t141,t142⟩,A830,H⟩:=H;replace H:((impl_CountIn.f kj79 t141).bind fun bt145=>(if t142=true then (if bt145.2=true then (some (decide (bt145.1≤(wrap64 ((t131.length:Int)+(t134.length:Int)))))) else (some false)) else (some false)))=some r:=H;have A83:=aM A830;clear A830;replace H:=Option.bind_eq_some_iff.mp H;obtain ⟨⟨t145,t146⟩,A840,H⟩:=H;replace H:(if t142=true then (if t146=true then (some (decide (t145≤(wrap64 ((t131.length:Int)+(t134.length:Int)))))) else (some false)) else (some false))=some r:=H;have A84:=aM A840;clear A840;by_cases c85:t142=true
              ·subst c85;have H1:(if t146=true then (some (decide (t145≤(wrap64 ((t131.length:Int)+(t134.length:Int)))))) else (some false))=some r:=by rw [if_pos rfl] at H;exact H
               clear H;have H:=H1;clear H1;by_cases c86:t146=true
               ·subst c86;have H1:(some (decide (t145≤(wrap64 ((t131.length:Int)+(t134.length:Int))))))=some r:=by rw [if_pos rfl] at H;exact H
                clear H;have H:=H1;clear H1
                as_aux_lemma=>
                 obtain rfl:=Option.some.inj H;go_wp2_with (first|((with_reducible refine Qh (f:=60) rfl ?_);refine goesL_ (some 139) rfl rfl Try.func60 (by kernel_rfl) rfl #[.slice Ao74 t128.length co74] rfl (by (try simp only [aD,aE,aF]);first|done|rfl|(simp only [aG,aH];rfl)) ?_;(with_reducible refine (impl_MatchLoads.calls kj79 _ _ t128 t141 true _ ?side1 ?side2 A83.out).mono ?_);(case side1=>repeat (first|exact (Kd.N_reads' HO_18.out).2.2|(with_reducible refine Kd.Qj ?_ _)|(with_reducible refine Kd.Qk ?_ _)|(with_reducible refine Kd.C_drew ?_)));(case side2=>exact (Kd.N_reads' HO_18.out).2.1);rintro e w87 ⟨v143,rfl,ho0,hb⟩;refine ⟨_,rfl,?_⟩;have n0_:=aM (Kd.N_elder' (by (with_reducible repeat (first|apply Kd.N_alloc|apply Kd.N_drewN|apply Kd.N_drew));exact HO_18.out) (Kd.R_base ho0) hb);have n1_:=aM (Kd.Q_elder' (by (with_reducible repeat (first|apply Kd.Q_alloc|apply Kd.Q_drewN|apply Kd.Q_drew));exact HO_19.out) (Kd.R_base ho0) hb);have n2_:=aM (Kd.R_elder' (by (with_reducible repeat (first|apply Kd.Qd|apply Kd.Qe|apply Kd.R_drew));exact HO_20.out) (Kd.R_base ho0) hb);have n3_:=aM (Kd.R_lower (Kd.R_new' (Kd.R_new' ho0 (Kd.Q_lt (by (with_reducible repeat (first|apply Kd.Q_alloc|apply Kd.Q_drewN|apply Kd.Q_drew));exact HO_19.out))) (Kd.R_lt (by (with_reducible repeat (first|apply Kd.Qd|apply Kd.Qe|apply Kd.R_drew));exact HO_20.out))) (Ql (by repeat (first|(with_reducible first|exact HB.out|apply Qb|apply Qa|apply Qc)|exact HB.out))));have n4_:=aM (Qi (by repeat (first|(with_reducible first|exact HB.out|apply Qb|apply Qa|apply Qc)|exact HB.out)) hb);clear HO_18;clear HO_19;clear HO_20;clear HB;have HO_18:=n0_;have HO_19:=n1_;have HO_20:=n2_;have HO144:=n3_;have HB:=n4_;clear n0_ n1_ n2_ n3_ n4_;(try clear hb);(try clear hb2);(try clear hk);(try clear hi);(try clear ho0);obtain ⟨Ao88,co88,eo88⟩:=Kd.R_slice HO144.out;subst eo88)|((with_reducible refine Qh (f:=75) rfl ?_);refine goesL_ (some 144) rfl rfl Try.func75 (by kernel_rfl) rfl #[.slice Ao88 t141.length co88] rfl (by (try simp only [aD,aE,aF]);first|done|rfl|(simp only [aG,aH];rfl)) ?_;(with_reducible refine (impl_CountIn.calls kj79 _ _ t141 t145 true _ ?side1 ?side2 A84.out).mono ?_);(case side1=>repeat (first|exact (Kd.Qf HO144.out).2.2|(with_reducible refine Kd.Qj ?_ _)|(with_reducible refine Kd.Qk ?_ _)|(with_reducible refine Kd.C_drew ?_)));(case side2=>exact (Kd.Qf HO144.out).2.1);rintro e w89 ⟨rfl,hb⟩;refine ⟨_,rfl,?_⟩;have n0_:=aM (Kd.N_below (by (with_reducible repeat (first|apply Kd.N_alloc|apply Kd.N_drewN|apply Kd.N_drew));exact HO_18.out) hb);have n1_:=aM (Kd.Q_below (by (with_reducible repeat (first|apply Kd.Q_alloc|apply Kd.Q_drewN|apply Kd.Q_drew));exact HO_19.out) hb);have n2_:=aM (Kd.R_below (by (with_reducible repeat (first|apply Kd.Qd|apply Kd.Qe|apply Kd.R_drew));exact HO_20.out) hb);have n3_:=aM (Kd.R_below (by (with_reducible repeat (first|apply Kd.Qd|apply Kd.Qe|apply Kd.R_drew));exact HO144.out) hb);have n4_:=aM (Qi (by repeat (first|(with_reducible first|exact HB.out|apply Qb|apply Qa|apply Qc)|exact HB.out)) hb);clear HO_18;clear HO_19;clear HO_20;clear HO144;clear HB;have HO_18:=n0_;have HO_19:=n1_;have HO_20:=n2_;have HO144:=n3_;have HB:=n4_;clear n0_ n1_ n2_ n3_ n4_;(try clear hb);(try clear hb2);(try clear hk);(try clear hi)))
                 go_ret
                 exact ⟨by first|rfl|(simp [errW_none,errW_some] <;> rfl)|(simp [*,errW_none,errW_some] <;> rfl),by repeat (first|(with_reducible first|exact HB.out|apply Qb|apply Qa|apply Qc)|exact HB.out)⟩
               ·replace c86:=Bool.eq_false_iff.mpr c86;subst c86;have H1:(some false)=some r:=by rw [if_neg (show ¬ (false=true) by decide)] at H;exact H
                clear H;have H:=H1;clear H1
                as_aux_lemma=>
                 obtain rfl:=Option.some.inj H;go_wp2_with (first|((with_reducible refine Qh (f:=60) rfl ?_);refine goesL_ (some 139) rfl rfl Try.func60 (by kernel_rfl) rfl #[.slice Ao74 t128.length co74] rfl (by (try simp only [aD,aE,aF]);first|done|rfl|(simp only [aG,aH];rfl)) ?_;(with_reducible refine (impl_MatchLoads.calls kj79 _ _ t128 t141 true _ ?side1 ?side2 A83.out).mono ?_);(case side1=>repeat (first|exact (Kd.N_reads' HO_18.out).2.2|(with_reducible refine Kd.Qj ?_ _)|(with_reducible refine Kd.Qk ?_ _)|(with_reducible refine Kd.C_drew ?_)));(case side2=>exact (Kd.N_reads' HO_18.out).2.1);rintro e w90 ⟨v143,rfl,ho0,hb⟩;refine ⟨_,rfl,?_⟩;have n0_:=aM (Kd.N_elder' (by (with_reducible repeat (first|apply Kd.N_alloc|apply Kd.N_drewN|apply Kd.N_drew));exact HO_18.out) (Kd.R_base ho0) hb);have n1_:=aM (Kd.Q_elder' (by (with_reducible repeat (first|apply Kd.Q_alloc|apply Kd.Q_drewN|apply Kd.Q_drew));exact HO_19.out) (Kd.R_base ho0) hb);have n2_:=aM (Kd.R_elder' (by (with_reducible repeat (first|apply Kd.Qd|apply Kd.Qe|apply Kd.R_drew));exact HO_20.out) (Kd.R_base ho0) hb);have n3_:=aM (Kd.R_lower (Kd.R_new' (Kd.R_new' ho0 (Kd.Q_lt (by (with_reducible repeat (first|apply Kd.Q_alloc|apply Kd.Q_drewN|apply Kd.Q_drew));exact HO_19.out))) (Kd.R_lt (by (with_reducible repeat (first|apply Kd.Qd|apply Kd.Qe|apply Kd.R_drew));exact HO_20.out))) (Ql (by repeat (first|(with_reducible first|exact HB.out|apply Qb|apply Qa|apply Qc)|exact HB.out))));have n4_:=aM (Qi (by repeat (first|(with_reducible first|exact HB.out|apply Qb|apply Qa|apply Qc)|exact HB.out)) hb);clear HO_18;clear HO_19;clear HO_20;clear HB;have HO_18:=n0_;have HO_19:=n1_;have HO_20:=n2_;have HO144:=n3_;have HB:=n4_;clear n0_ n1_ n2_ n3_ n4_;(try clear hb);(try clear hb2);(try clear hk);(try clear hi);(try clear ho0);obtain ⟨Ao91,co91,eo91⟩:=Kd.R_slice HO144.out;subst eo91)|((with_reducible refine Qh (f:=75) rfl ?_);refine goesL_ (some 144) rfl rfl Try.func75 (by kernel_rfl) rfl #[.slice Ao91 t141.length co91] rfl (by (try simp only [aD,aE,aF]);first|done|rfl|(simp only [aG,aH];rfl)) ?_;(with_reducible refine (impl_CountIn.calls kj79 _ _ t141 t145 false _ ?side1 ?side2 A84.out).mono ?_);(case side1=>repeat (first|exact (Kd.Qf HO144.out).2.2|(with_reducible refine Kd.Qj ?_ _)|(with_reducible refine Kd.Qk ?_ _)|(with_reducible refine Kd.C_drew ?_)));(case side2=>exact (Kd.Qf HO144.out).2.1);rintro e w92 ⟨rfl,hb⟩;refine ⟨_,rfl,?_⟩;have n0_:=aM (Kd.N_below (by (with_reducible repeat (first|apply Kd.N_alloc|apply Kd.N_drewN|apply Kd.N_drew));exact HO_18.out) hb);have n1_:=aM (Kd.Q_below (by (with_reducible repeat (first|apply Kd.Q_alloc|apply Kd.Q_drewN|apply Kd.Q_drew));exact HO_19.out) hb);have n2_:=aM (Kd.R_below (by (with_reducible repeat (first|apply Kd.Qd|apply Kd.Qe|apply Kd.R_drew));exact HO_20.out) hb);have n3_:=aM (Kd.R_below (by (with_reducible repeat (first|apply Kd.Qd|apply Kd.Qe|apply Kd.R_drew));exact HO144.out) hb);have n4_:=aM (Qi (by repeat (first|(with_reducible first|exact HB.out|apply Qb|apply Qa|apply Qc)|exact HB.out)) hb);clear HO_18;clear HO_19;clear HO_20;clear HO144;clear HB;have HO_18:=n0_;have HO_19:=n1_;have HO_20:=n2_;have HO144:=n3_;have HB:=n4_;clear n0_ n1_ n2_ n3_ n4_;(try clear hb);(try clear hb2);(try clear hk);(try clear hi)))
                 go_ret
                 exact ⟨by first|rfl|(simp [errW_none,errW_some] <;> rfl)|(simp [*,errW_none,errW_some] <;> rfl),by repeat (first|(with_reducible first|exact HB.out|apply Qb|apply Qa|apply Qc)|exact HB.out)⟩
              ·replace c85:=Bool.eq_false_iff.mpr c85;subst c85;have H1:(some false)=some r:=by rw [if_neg (show ¬ (false=true) by decide)] at H;exact H
               clear H;have H:=H1;clear H1
               as_aux_lemma=>
                obtain rfl:=Option.some.inj H;go_wp2_with (first|((with_reducible refine Qh (f:=60) rfl ?_);refine goesL_ (some 139) rfl rfl Try.func60 (by kernel_rfl) rfl #[.slice Ao74 t128.length co74] rfl (by (try simp only [aD,aE,aF]);first|done|rfl|(simp only [aG,aH];rfl)) ?_;(with_reducible refine (impl_MatchLoads.calls kj79 _ _ t128 t141 false _ ?side1 ?side2 A83.out).mono ?_);(case side1=>repeat (first|exact (Kd.N_reads' HO_18.out).2.2|(with_reducible refine Kd.Qj ?_ _)|(with_reducible refine Kd.Qk ?_ _)|(with_reducible refine Kd.C_drew ?_)));(case side2=>exact (Kd.N_reads' HO_18.out).2.1);rintro e w93 ⟨v143,rfl,ho0,hb⟩;refine ⟨_,rfl,?_⟩;have n0_:=aM (Kd.N_elder' (by (with_reducible repeat (first|apply Kd.N_alloc|apply Kd.N_drewN|apply Kd.N_drew));exact HO_18.out) (Kd.R_base ho0) hb);have n1_:=aM (Kd.Q_elder' (by (with_reducible repeat (first|apply Kd.Q_alloc|apply Kd.Q_drewN|apply Kd.Q_drew));exact HO_19.out) (Kd.R_base ho0) hb);have n2_:=aM (Kd.R_elder' (by (with_reducible repeat (first|apply Kd.Qd|apply Kd.Qe|apply Kd.R_drew));exact HO_20.out) (Kd.R_base ho0) hb);have n3_:=aM (Kd.R_lower (Kd.R_new' (Kd.R_new' ho0 (Kd.Q_lt (by (with_reducible repeat (first|apply Kd.Q_alloc|apply Kd.Q_drewN|apply Kd.Q_drew));exact HO_19.out))) (Kd.R_lt (by (with_reducible repeat (first|apply Kd.Qd|apply Kd.Qe|apply Kd.R_drew));exact HO_20.out))) (Ql (by repeat (first|(with_reducible first|exact HB.out|apply Qb|apply Qa|apply Qc)|exact HB.out))));have n4_:=aM (Qi (by repeat (first|(with_reducible first|exact HB.out|apply Qb|apply Qa|apply Qc)|exact HB.out)) hb);clear HO_18;clear HO_19;clear HO_20;clear HB;have HO_18:=n0_;have HO_19:=n1_;have HO_20:=n2_;have HO144:=n3_;have HB:=n4_;clear n0_ n1_ n2_ n3_ n4_;(try clear hb);(try clear hb2);(try clear hk);(try clear hi);(try clear ho0);obtain ⟨Ao94,co94,eo94⟩:=Kd.R_slice HO144.out;subst eo94)|((with_reducible refine Qh (f:=75) rfl ?_);refine goesL_ (some 144) rfl rfl Try.func75 (by kernel_rfl) rfl #[.slice Ao94 t141.length co94] rfl (by (try simp only [aD,aE,aF]);first|done|rfl|(simp only [aG,aH];rfl)) ?_;(with_reducible refine (impl_CountIn.calls kj79 _ _ t141 t145 t146 _ ?side1 ?side2 A84.out).mono ?_);(case side1=>repeat (first|exact (Kd.Qf HO144.out).2.2|(with_reducible refine Kd.Qj ?_ _)|(with_reducible refine Kd.Qk ?_ _)|(with_reducible refine Kd.C_drew ?_)));(case side2=>exact (Kd.Qf HO144.out).2.1);rintro e w95 ⟨rfl,hb⟩;refine ⟨_,rfl,?_⟩;have n0_:=aM (Kd.N_below (by (with_reducible repeat (first|apply Kd.N_alloc|apply Kd.N_drewN|apply Kd.N_drew));exact HO_18.out) hb);have n1_:=aM (Kd.Q_below (by (with_reducible repeat (first|apply Kd.Q_alloc|apply Kd.Q_drewN|apply Kd.Q_drew));exact HO_19.out) hb);have n2_:=aM (Kd.R_below (by (with_reducible repeat (first|apply Kd.Qd|apply Kd.Qe|apply Kd.R_drew));exact HO_20.out) hb);have n3_:=aM (Kd.R_below (by (with_reducible repeat (first|apply Kd.Qd|apply Kd.Qe|apply Kd.R_drew));exact HO144.out) hb);have n4_:=aM (Qi (by repeat (first|(with_reducible first|exact HB.out|apply Qb|apply Qa|apply Qc)|exact HB.out)) hb);clear HO_18;clear HO_19;clear HO_20;clear HO144;clear HB;have HO_18:=n0_;have HO_19:=n1_;have HO_20:=n2_;have HO144:=n3_;have HB:=n4_;clear n0_ n1_ n2_ n3_ n4_;(try clear hb);(try clear hb2);(try clear hk);(try clear hi)))
                go_ret
                exact ⟨by first|rfl|(simp [errW_none,errW_some] <;> rfl)|(simp [*,errW_none,errW_some] <;> rfl),by repeat (first|(with_reducible first|exact HB.out|apply Qb|apply Qa|apply Qc)|exact HB.out)⟩
             ·replace c82:=Bool.eq_false_iff.mpr c82;subst c82;have H1:(some true)=some r:=by rw [if_neg (show ¬ (false=true) by decide)] at H;exact H
              clear H;have H:=H1;clear H1
              as_aux_lemma=>
               obtain rfl:=Option.some.inj H;go_wp2
               go_ret
               exact ⟨by first|rfl|(simp [errW_none,errW_some] <;> rfl)|(simp [*,errW_none,errW_some] <;> rfl),by repeat (first|(with_reducible first|exact HB.out|apply Qb|apply Qa|apply Qc)|exact HB.out)⟩

/-- THE ONE PURE STATEMENT of laws_FnCovers:yours. -/
def laws_FnCovers.Pure:Prop:=∀ (l0:List Int) (l1:List Int),l0.length≤maxLen→l0.length * 1≤140737488351232→(∀ x ∈ l0,(Lit.int .u8 x).wf=true)→l1.length≤maxLen→l1.length * 1≤140737488351232→(∀ x ∈ l1,(Lit.int .u8 x).wf=true)→∃ k,laws_FnCovers.f k l0 l1=some true
theorem laws_FnCovers.walk (P:laws_FnCovers.Pure) (a0:Option Addr) (len0 cap0:Nat) (z0:List Int) (a1:Option Addr) (len1 cap1:Nat) (z1:List Int) (w:World) (w0:(a0=none∧len0=0∧cap0=0∧z0=[])∨∃ x,a0=some x∧len0≤cap0∧cap0≤maxLen∧z0.length=cap0∧(∀ i,i<z0.length→w.cell? (x.add i)=some (.int .u8 (z0.getD i 0)))∧∀ n ∈ z0,(Lit.int .u8 n).wf=true) (y0:len0 * 1≤140737488351232) (w1:(a1=none∧len1=0∧cap1=0∧z1=[])∨∃ x,a1=some x∧len1≤cap1∧cap1≤maxLen∧z1.length=cap1∧(∀ i,i<z1.length→w.cell? (x.add i)=some (.int .u8 (z1.getD i 0)))∧∀ n ∈ z1,(Lit.int .u8 n).wf=true) (y1:len1 * 1≤140737488351232) :
    Calls Try.prog 11 #[.slice a0 len0 cap0,.slice a1 len1 cap1] w fun e w'=>e= .returned (.bool true)∧Below w.heap.size w w':=by
  obtain ⟨l0,rfl,hr0,hm0,hw0,hc0⟩:=ReadsInt.ofRowC w0;obtain ⟨l1,rfl,hr1,hm1,hw1,hc1⟩:=ReadsInt.ofRowC w1;obtain ⟨k,h⟩:=P l0 l1 hm0 y0 hw0 hm1 y1 hw1;refine (laws_FnCovers.calls k _ _ l0 _ _ l1 true w (Kd.C_of_reads (d:=(0:Int)) (h1:=fun _=>rfl) hr0) hc0 (Kd.C_of_reads (d:=(0:Int)) (h1:=fun _=>rfl) hr1) hc1 h).mono ?_
  rintro e w' ⟨rfl,hd⟩
  exact ⟨rfl,hd⟩
end Go.Proofs.Ytpagpbamdpllnaa.Print
namespace Go.Proofs.Ytpagpbamdpllnaa.Pure
open Go.RowKit Go.Proofs.Ytpagpbamdpllnaa.Print Go.Proofs.YtpagpbamdpllnaaW.PrintWords Go.Proofs.YtpagpbamdpllnaaW.PrintLast Go.Proofs.YtpagpbamdpllnaaW.PrintMore

theorem Ev.of_eq {α : Type} {g : Nat → Option α} {r : α} (h : ∀ k, g k = some r) : Ev g r := ⟨0, fun k _ => h k⟩
theorem Ev.bind0 {α β : Type} {o : Option α} {f : Nat → α → Option β} {a : α} {r : β} (h : o = some a) (k : Ev (fun n => f n a) r) : Ev (fun n => o.bind (f n)) r := by
  subst h; exact k
theorem Ev.pos {α : Type} {c : Prop} [Decidable c] {g f : Nat → Option α} {r : α} (h : c) (k : Ev g r) : Ev (fun n => if c then g n else f n) r := by
  simpa only [if_pos h] using k
theorem Ev.neg {α : Type} {c : Prop} [Decidable c] {g f : Nat → Option α} {r : α} (h : ¬ c) (k : Ev f r) : Ev (fun n => if c then g n else f n) r := by
  simpa only [if_neg h] using k
theorem Ev.ite {α : Type} {c : Prop} [Decidable c] {g f : Nat → Option α} {r : α} (h : c → Ev g r) (k : ¬ c → Ev f r) : Ev (fun n => if c then g n else f n) r := by
  by_cases hc : c
  · exact Ev.pos hc (h hc)
  · exact Ev.neg hc (k hc)
theorem Ev.step0 {α : Type} {g f : Nat → Option α} {r : α} (k : Ev f r) (h : ∀ k, g (k + 1) = f k) : Ev g r := Ev.step h k
theorem Ev.to {α : Type} {g : Nat → Option α} {r s : α} (k : Ev g r) (h : r = s) : Ev g s := h ▸ k
theorem ev_up {β : Type} (n : Nat) (g : Nat → Nat → Option β) (r : β) (I : Nat → Prop) (h0 : I 0)
    (hend : I n → Ev (fun k => g k n) r) (hstep : ∀ i, i < n → I i → (I (i + 1) → Ev (fun k => g k (i + 1)) r) → Ev (fun k => g k i) r) : Ev (fun k => g k 0) r := by
  have h : ∀ d i, i + d = n → I i → Ev (fun k => g k i) r := by
    intro d
    induction d with
    | zero => intro i hi hI; obtain rfl : i = n := by omega
              exact hend hI
    | succ d ih => intro i hi hI; exact hstep i (by omega) hI fun hI' => ih (i + 1) (by omega) hI'
  exact h n 0 (by omega) h0
theorem w64 {x : Int} (h1 : -9223372036854775808 ≤ x) (h2 : x < 9223372036854775808) : wrap64 x = x := by unfold wrap64; omega
theorem rd_nat (l : List Int) (i : Nat) (h : i < l.length) : rd l (i : Int) = l[i] := by simp [rd, h]
theorem toNat_nat (i : Nat) : ((i : Int)).toNat = i := Int.toNat_natCast i
theorem lt_len {α : Type} {l : List α} {i : Nat} (h : i < l.length) : (i : Int) < (l.length : Int) := by omega
def allIn (l : List Int) (lo hi : Int) : Bool := l.all fun x => decide (lo ≤ x) && decide (x ≤ hi)
theorem allIn_iff (l : List Int) (lo hi : Int) : allIn l lo hi = true ↔ ∀ x ∈ l, lo ≤ x ∧ x ≤ hi := by
  simp [allIn, List.all_eq_true]
theorem Ev.succ {α : Type} {g : Nat → Option α} {r : α} (h : Ev (fun k => g (k + 1)) r) : Ev g r := Ev.step (fun _ => rfl) h
theorem exists_nat_of_nonneg {x : Int} (h : 0 ≤ x) : ∃ n : Nat, x = n := ⟨x.toNat, by omega⟩
theorem Ev.uniq {α : Type} {g : Nat → Option α} {r s : α} (h : Ev g r) (h' : Ev g s) : r = s := by
  obtain ⟨K, hK⟩ := h
  obtain ⟨K', hK'⟩ := h'
  have e := hK (max K K') (Nat.le_max_left _ _)
  rw [hK' (max K K') (Nat.le_max_right _ _)] at e
  exact (Option.some.inj e).symm

def bytesOk (l : List Int) : Prop := ∀ x ∈ l, 0 ≤ x ∧ x ≤ 255
theorem wf_u8 {x : Int} (h : (Lit.int .u8 x).wf = true) : 0 ≤ x ∧ x ≤ 255 := by
  have h' : decide (IntKind.u8.min ≤ x) && decide (x ≤ IntKind.u8.max) := h
  simp only [Bool.and_eq_true, decide_eq_true_eq] at h'
  have e1 : IntKind.u8.min = 0 := by decide
  have e2 : IntKind.u8.max = 255 := by decide
  omega
theorem bytesOk_of (l : List Int) (h : ∀ x ∈ l, (Lit.int .u8 x).wf = true) : bytesOk l := fun x hx => wf_u8 (h x hx)
theorem u64_range (x : Int) : 0 ≤ IntKind.u64.wrap x ∧ IntKind.u64.wrap x < 18446744073709551616 := by
  have e : IntKind.u64.wrap x = x % 18446744073709551616 := by simp [IntKind.wrap, IntKind.bits, IntKind.signed]
  rw [e]; omega
theorem and_255 (x : Int) (h0 : 0 ≤ x) (h1 : x < 18446744073709551616) : 0 ≤ Go.bits .and .u64 x 255 ∧ Go.bits .and .u64 x 255 ≤ 255 := by
  obtain ⟨n, rfl⟩ := exists_nat_of_nonneg h0
  have e : Go.bits .and .u64 (n : Int) ((255 : Nat) : Int) = ((n &&& 255 : Nat) : Int) := u64_and_nat n 255 (by omega) (by omega)
  have h2 : n &&& 255 ≤ 255 := Nat.and_le_right
  have e' : Go.bits .and .u64 (n : Int) 255 = ((n &&& 255 : Nat) : Int) := e
  rw [e']; omega
theorem rd_mem_or (l : List Int) (i : Int) (h0 : 0 ≤ i) (h : i < l.length) : rd l i ∈ l := by
  obtain ⟨n, rfl⟩ := exists_nat_of_nonneg h0
  rw [rd_nat l n (by omega)]; exact List.getElem_mem _

theorem cur_next (l : List Int) (a s : Int) (hl : bytesOk l) (ha : 0 ≤ a ∧ a ≤ 4611686018427387904) :
    ∃ b s', spec_l1Cur_next.f l a s = some (b, a + 1, s') ∧ 0 ≤ b ∧ b ≤ 255 := by
  have hmask : ∀ y : Int, 0 ≤ wrap64 (Go.bits .and .u64 ((IntKind.u64.wrap y) / 1099511627776) 255) ∧ wrap64 (Go.bits .and .u64 ((IntKind.u64.wrap y) / 1099511627776) 255) ≤ 255 := fun y => by
    have h1 := u64_range y
    have h2 := and_255 ((IntKind.u64.wrap y) / 1099511627776) (by omega) (by omega)
    rw [w64 (by omega) (by omega)]; exact h2
  unfold spec_l1Cur_next.f
  rw [w64 (x := a + 1) (by omega) (by omega)]
  by_cases h1 : a < (l.length : Int)
  · have hb := hl _ (rd_mem_or l a ha.1 h1)
    rw [if_pos h1, if_pos ha.1]
    by_cases h2 : a + 1 ≤ (l.length : Int)
    · rw [if_pos h2]; exact ⟨_, _, rfl, by rw [w64 (by omega) (by omega)]; exact hb⟩
    · rw [if_neg h2]; exact ⟨_, _, rfl, hmask _⟩
  · rw [if_neg h1]
    by_cases h2 : a + 1 ≤ (l.length : Int)
    · rw [if_pos h2]; exact ⟨_, _, rfl, by omega⟩
    · rw [if_neg h2]; exact ⟨_, _, rfl, hmask _⟩

theorem cur_pick (l : List Int) (a s n : Int) (hl : bytesOk l) (ha : 0 ≤ a ∧ a ≤ 4611686018427387900) :
    ∃ r a' s', spec_l1Cur_pick.f l a s n = some (r, a', s') ∧ 0 ≤ r ∧ (r < n ∨ n ≤ 1 ∧ r = 0) ∧ a ≤ a' ∧ a' ≤ a + 2 := by
  unfold spec_l1Cur_pick.f
  by_cases h : n ≤ 1
  · rw [if_pos h]; exact ⟨0, a, s, rfl, by omega, .inr ⟨h, rfl⟩, by omega, by omega⟩
  · rw [if_neg h]
    obtain ⟨b, s1, e1, hb⟩ := cur_next l a s hl (by omega)
    rw [e1]; simp only [Option.bind_some]
    by_cases h2 : n > 200
    · rw [if_pos h2]
      obtain ⟨c, s2, e2, hc⟩ := cur_next l (a + 1) s1 hl (by omega)
      rw [e2]; simp only [Option.bind_some]; rw [if_neg (by omega), w64 (x := b * 256) (by omega) (by omega), w64 (by omega) (by omega)]
      exact ⟨_, _, _, rfl, Int.tmod_nonneg _ (by omega), .inl (Int.tmod_lt_of_pos _ (by omega)), by omega, by omega⟩
    · rw [if_neg h2, if_neg (by omega)]
      exact ⟨_, _, _, rfl, Int.tmod_nonneg _ (by omega), .inl (Int.tmod_lt_of_pos _ (by omega)), by omega, by omega⟩

theorem cur_one (l : List Int) (a s n : Int) (hl : bytesOk l) (ha : 0 ≤ a ∧ a ≤ 4611686018427387900) :
    ∃ r a' s', spec_l1Cur_one.f l a s n = some (r, a', s') ∧ a ≤ a' ∧ a' ≤ a + 2 := by
  unfold spec_l1Cur_one.f
  obtain ⟨r, a', s', e, h0, h1, h2, h3⟩ := cur_pick l a s n hl ha
  rw [e]; exact ⟨_, _, _, rfl, h2, h3⟩

theorem impl_within_eq (n lo hi : Int) : impl_within.f n lo hi = some (decide (lo ≤ n) && decide (n ≤ hi)) := by
  unfold impl_within.f
  by_cases h : n ≥ lo
  · rw [if_pos h, decide_eq_true (show lo ≤ n from h)]; simp
  · rw [if_neg h, decide_eq_false (show ¬ lo ≤ n from h)]; simp

theorem impl_allWithin_ev (l : List Int) (lo hi : Int) (hl : l.length < 4611686018427387904) : Ev (fun k => impl_allWithin.f k l lo hi) (allIn l lo hi) := by
  unfold impl_allWithin.f sl1_ContainsFunc.f sl3_IndexFunc.f
  have key : ∃ j : Int, decide (j ≥ 0) = !(allIn l lo hi) ∧ Ev (fun k => sl3_IndexFunc.l0 k l (l.length : Int) 0 lo hi) j := by
    have hc : ∀ x : Int, impl_allWithin_1.f x lo hi = some (!(decide (lo ≤ x) && decide (x ≤ hi))) := fun x => by
      unfold impl_allWithin_1.f; rw [impl_within_eq]; rfl
    cases ha : allIn l lo hi with
    | true =>
      refine ⟨-1, by decide, ?_⟩
      refine ev_up l.length (fun k i => sl3_IndexFunc.l0 k l (l.length : Int) (i : Int) lo hi) _ (fun _ => True) trivial ?_ ?_
      · intro _
        refine Ev.step0 (Ev.of_eq fun _ => rfl) fun k => ?_
        simp only [sl3_IndexFunc.l0]; rw [if_neg (by omega)]
      · intro i hi' _ hn
        have hb := (allIn_iff l lo hi).mp ha l[i] (List.getElem_mem hi')
        refine Ev.step0 (hn trivial) fun k => ?_
        simp only [sl3_IndexFunc.l0]; rw [if_pos (lt_len hi'), if_pos (by omega), if_pos (lt_len hi'), rd_nat l i hi', hc, decide_eq_true hb.1, decide_eq_true hb.2]
        simp only [Option.bind_some]; rw [if_neg (by decide), w64 (by omega) (by omega)]; rfl
    | false =>
      have : ∃ i : Nat, i < l.length ∧ Ev (fun k => sl3_IndexFunc.l0 k l (l.length : Int) 0 lo hi) (i : Int) := by
        obtain ⟨i, hi', hp, hlt⟩ : ∃ i : Nat, ∃ h : i < l.length, (decide (lo ≤ l[i]) && decide (l[i] ≤ hi)) = false ∧ ∀ j, ∀ hj : j < i, (decide (lo ≤ l[j]) && decide (l[j] ≤ hi)) = true := by
          have h1 : ∃ i : Nat, ∃ h : i < l.length, (decide (lo ≤ l[i]) && decide (l[i] ≤ hi)) = false := by
            unfold allIn at ha
            rw [List.all_eq_false] at ha
            obtain ⟨x, hx, hp⟩ := ha
            obtain ⟨i, hi', rfl⟩ := List.getElem_of_mem hx
            exact ⟨i, hi', by simpa using hp⟩
          obtain ⟨m, hm, hmin⟩ := exists_least h1
          obtain ⟨hm1, hm2⟩ := hm
          refine ⟨m, hm1, hm2, fun j hj => ?_⟩
          cases hq : (decide (lo ≤ l[j]) && decide (l[j] ≤ hi)) with
          | true => rfl
          | false => have := hmin j ⟨by omega, hq⟩; omega
        refine ⟨i, hi', ?_⟩
        refine ev_up i (fun k i => sl3_IndexFunc.l0 k l (l.length : Int) (i : Int) lo hi) _ (fun _ => True) trivial ?_ ?_
        · intro _
          refine Ev.step0 (Ev.of_eq fun _ => rfl) fun k => ?_
          simp only [sl3_IndexFunc.l0]; rw [if_pos (lt_len hi'), if_pos (by omega), if_pos (lt_len hi'), rd_nat l i hi', hc, hp]
          simp
        · intro j hj _ hn
          have hj' : j < l.length := by omega
          refine Ev.step0 (hn trivial) fun k => ?_
          simp only [sl3_IndexFunc.l0]; rw [if_pos (lt_len hj'), if_pos (by omega), if_pos (lt_len hj'), rd_nat l j hj', hc, hlt j hj]
          simp only [Option.bind_some]; rw [if_neg (by decide), w64 (by omega) (by omega)]; rfl
      obtain ⟨i, _, hi2⟩ := this
      exact ⟨i, by simp, hi2⟩
  obtain ⟨j, hj, hev⟩ := key
  refine Ev.to (Ev.bind (Ev.bind hev (Ev.now _)) (Ev.now _)) ?_
  rw [hj]; simp

def lowNum (a b : Int) : Int := if b < 0 then Int.tdiv (-a) (Int.gcd a b) else Int.tdiv a (Int.gcd a b)
def lowDen (a b : Int) : Int := if b < 0 then Int.tdiv (-b) (Int.gcd a b) else Int.tdiv b (Int.gcd a b)
def goodFrac (a b : Int) : Bool := decide (-1000000000 ≤ a) && decide (a ≤ 1000000000) && (decide (1 ≤ b) && decide (b ≤ 1000000000)) && decide (Int.gcd a b = 1)

theorem rdOf_nat {α : Type} (d : α) (l : List α) (i : Nat) (h : i < l.length) : rdOf d l (i : Int) = l[i] := by simp [rdOf, h]
theorem w64n {i n : Nat} (h : i < n) (hn : n ≤ 4611686018427387904) : wrap64 ((i : Int) + 1) = ((i + 1 : Nat) : Int) := by rw [w64 (by omega) (by omega)]; rfl
theorem ev_indexFunc {α : Type} (l : List α) (rdx : Int → α) (hr : ∀ (i : Nat) (h : i < l.length), rdx (i : Int) = l[i]) (c : Nat → α → Option Bool) (p : α → Bool)
    (hc : ∀ x ∈ l, Ev (fun k => c k x) (p x)) (g : Nat → Int → Option Int)
    (hg : ∀ k i, g (k + 1) i = if i < (l.length : Int) then (if 0 ≤ i then (if i < (l.length : Int) then ((c k (rdx i)).bind fun t => if t = true then some i else g k (wrap64 (i + 1))) else none) else none) else some (-1))
    (hl : l.length ≤ 4611686018427387904) : ∃ j : Int, decide (j ≥ 0) = l.any p ∧ Ev (fun k => g k 0) j := by
  have gen : ∀ (d i : Nat), i + d = l.length → ∃ j : Int, decide (j ≥ 0) = (l.drop i).any p ∧ Ev (fun k => g k (i : Int)) j := by
    intro d
    induction d with
    | zero =>
      intro i hi
      refine ⟨-1, by rw [List.drop_of_length_le (by omega)]; rfl, Ev.step0 (Ev.of_eq fun _ => rfl) fun k => ?_⟩
      rw [hg, if_neg (by omega)]
    | succ d ih =>
      intro i hi
      have hi' : i < l.length := by omega
      have hd : (l.drop i).any p = (p l[i] || (l.drop (i + 1)).any p) := by rw [List.drop_eq_getElem_cons hi', List.any_cons]
      have hcx := hc l[i] (List.getElem_mem hi')
      cases hp : p l[i] with
      | true =>
        refine ⟨i, by rw [hd, hp]; simp, Ev.step (fun k => hg k _) (Ev.pos (by omega) (Ev.pos (by omega) (Ev.pos (by omega) ?_)))⟩
        rw [hr i hi']
        exact Ev.bind hcx (Ev.pos hp (Ev.now _))
      | false =>
        obtain ⟨j, hj, hev⟩ := ih (i + 1) (by omega)
        refine ⟨j, by rw [hd, hp, hj]; rfl, Ev.step (fun k => hg k _) (Ev.pos (by omega) (Ev.pos (by omega) (Ev.pos (by omega) ?_)))⟩
        rw [hr i hi', w64 (by omega) (by omega)]
        exact Ev.bind hcx (Ev.neg (by rw [hp]; simp) hev)
  have := gen l.length 0 (by omega)
  simpa using this
theorem any_not_all {α : Type} (l : List α) (p : α → Bool) : l.any (fun x => !p x) = !(l.all p) := by
  induction l with
  | nil => rfl
  | cons a l ih => simp [ih]
theorem spec_l1Has_ev (l : List Int) (a : Int) (hl : l.length ≤ 4611686018427387904) : Ev (fun k => spec_l1Has.f k l a) (decide (a ∈ l)) := by
  unfold spec_l1Has.f
  have gen : ∀ (d i : Nat), i + d = l.length → Ev (fun k => spec_l1Has.l0 k a l (l.length : Int) (i : Int)) (decide (a ∈ l.drop i)) := by
    intro d
    induction d with
    | zero =>
      intro i hi
      rw [List.drop_of_length_le (by omega)]
      refine Ev.succ ?_
      simp only [spec_l1Has.l0]; exact Ev.neg (by omega) (Ev.now _)
    | succ d ih =>
      intro i hi
      have hi' : i < l.length := by omega
      rw [List.drop_eq_getElem_cons hi']
      refine Ev.succ ?_
      simp only [spec_l1Has.l0]
      refine Ev.pos (by omega) (Ev.pos (by omega) (Ev.pos (by omega) ?_))
      rw [rd_nat l i hi', w64 (by omega) (by omega)]
      refine Ev.ite (fun h => ?_) (fun h => ?_)
      · rw [h]; simpa using Ev.now true
      · have := ih (i + 1) (by omega)
        have e : decide (a ∈ l[i] :: l.drop (i + 1)) = decide (a ∈ l.drop (i + 1)) := by
          rw [decide_eq_decide, List.mem_cons]; constructor
          · rintro (h2 | h2)
            · exact absurd h2.symm h
            · exact h2
          · exact .inr
        rw [e]; exact this
  simpa using gen l.length 0 (by omega)

def wayOf (a b c d : Int) : Int := if a = c then ((b - d).natAbs : Int) else 3 * ((a - c).natAbs : Int) + (if 40 - (b + d) < b + d then 40 - (b + d) else b + d)
def spotOk (a b : Int) : Bool := (decide (0 ≤ a) && decide (a ≤ 9)) && (decide (0 ≤ b) && decide (b ≤ 20))

theorem laws_sameInts_ev (a b : List Int) (hl : a.length ≤ 4611686018427387904) : Ev (fun k => laws_sameInts.f k a b) (decide (a = b)) := by
  unfold laws_sameInts.f
  refine Ev.ite (fun h => ?_) (fun h => ?_)
  · have hlen : a.length = b.length := by omega
    have gen : ∀ (d i : Nat), i + d = a.length → Ev (fun k => laws_sameInts.l0 k a b (a.length : Int) (i : Int)) (decide (a.drop i = b.drop i)) := by
      intro d
      induction d with
      | zero =>
        intro i hi
        rw [List.drop_of_length_le (by omega), List.drop_of_length_le (by omega)]
        refine Ev.succ ?_
        simp only [laws_sameInts.l0]; exact Ev.neg (by omega) (by simpa using Ev.now true)
      | succ d ih =>
        intro i hi
        have hi' : i < a.length := by omega
        have hi2 : i < b.length := by omega
        rw [List.drop_eq_getElem_cons hi', List.drop_eq_getElem_cons hi2]
        refine Ev.succ ?_
        simp only [laws_sameInts.l0]
        refine Ev.pos (by omega) (Ev.pos (by omega) (Ev.pos (by omega) (Ev.pos (by omega) ?_)))
        rw [rd_nat a i hi', rd_nat b i hi2, w64n hi' (by omega)]
        refine Ev.ite (fun h => ?_) (fun h => ?_)
        · have e : decide (a[i] :: a.drop (i + 1) = b[i] :: b.drop (i + 1)) = decide (a.drop (i + 1) = b.drop (i + 1)) := by
            rw [decide_eq_decide, h]; exact ⟨fun h => (List.cons.inj h).2, fun h => by rw [h]⟩
          rw [e]; exact ih (i + 1) (by omega)
        · have e : decide (a[i] :: a.drop (i + 1) = b[i] :: b.drop (i + 1)) = false := by
            rw [decide_eq_false_iff_not]; intro h2; injection h2 with h3; exact h h3
          rw [e]; exact Ev.now _
    simpa using gen a.length 0 (by omega)
  · have e : decide (a = b) = false := by rw [decide_eq_false_iff_not]; rintro rfl; exact h rfl
    rw [e]; exact Ev.now _
theorem laws_same_ev (a : List Int) (hl : a.length ≤ 4611686018427387904) : Ev (fun k => laws_sameInts.f k a a) true := Ev.to (laws_sameInts_ev a a hl) (by simp)

inductive Tk (F : Nat → Nat → Bool) (nb : Nat) : Nat → Nat → List Int → List Bool → Bool → List Int → List Bool → Prop where
  | done {l b : Nat} {o : List Int} {t : List Bool} : nb ≤ b → Tk F nb l b o t false o t
  | skip {l b : Nat} {o o' : List Int} {t t' : List Bool} {r : Bool} : b < nb → (F l b = false ∨ rdOf false t (b : Int) = true) → Tk F nb l (b + 1) o t r o' t' → Tk F nb l b o t r o' t'
  | free {l b : Nat} {o : List Int} {t : List Bool} : b < nb → F l b = true → rdOf false t (b : Int) = false → rd o (b : Int) < 0 → Tk F nb l b o t true (o.set b (l : Int)) (t.set b true)
  | push {l b m : Nat} {o o' : List Int} {t t' : List Bool} : b < nb → F l b = true → rdOf false t (b : Int) = false → rd o (b : Int) = (m : Int) → Tk F nb m 0 o (t.set b true) true o' t' → Tk F nb l b o t true (o'.set b (l : Int)) t'
  | fail {l b m : Nat} {o o' o'' : List Int} {t t' t'' : List Bool} {r : Bool} : b < nb → F l b = true → rdOf false t (b : Int) = false → rd o (b : Int) = (m : Int) → Tk F nb m 0 o (t.set b true) false o' t' → Tk F nb l (b + 1) o' t' r o'' t'' → Tk F nb l b o t r o'' t''
theorem rd_setn (o : List Int) (b x : Nat) (v : Int) (h : b < o.length) : rd (o.set b v) (x : Int) = if x = b then v else rd o (x : Int) := by
  simp only [rd, Int.toNat_natCast, List.getD_eq_getElem?_getD, List.getElem?_set]
  by_cases hx : b = x
  · subst hx; simp [h]
  · rw [if_neg hx, if_neg (fun e => hx e.symm)]
theorem rdOf_setn (t : List Bool) (b x : Nat) (v : Bool) (h : b < t.length) : rdOf false (t.set b v) (x : Int) = if x = b then v else rdOf false t (x : Int) := by
  simp only [rdOf, Int.toNat_natCast, List.getD_eq_getElem?_getD, List.getElem?_set]
  by_cases hx : b = x
  · subst hx; simp [h]
  · rw [if_neg hx, if_neg (fun e => hx e.symm)]
theorem Tk.len {F : Nat → Nat → Bool} {nb l b : Nat} {o o' : List Int} {t t' : List Bool} {r : Bool} (h : Tk F nb l b o t r o' t') : o'.length = o.length ∧ t'.length = t.length := by
  induction h with
  | done _ => exact ⟨rfl, rfl⟩
  | skip _ _ _ ih => exact ih
  | free _ _ _ _ => simp
  | push _ _ _ _ _ ih => simp at ih ⊢; exact ih
  | fail _ _ _ _ _ _ ih1 ih2 => simp at ih1; exact ⟨by omega, by omega⟩
theorem Tk.rng {F : Nat → Nat → Bool} {nb n l b : Nat} {o o' : List Int} {t t' : List Bool} {r : Bool} (h : Tk F nb l b o t r o' t') :
    o.length = nb → l < n → (∀ x : Nat, x < nb → -1 ≤ rd o (x : Int) ∧ rd o (x : Int) < n) → ∀ x : Nat, x < nb → -1 ≤ rd o' (x : Int) ∧ rd o' (x : Int) < n := by
  induction h with
  | done _ => intro _ _ h; exact h
  | skip _ _ _ ih => exact ih
  | free hb _ _ _ => intro ho hl h x hx; rw [rd_setn _ _ _ _ (by omega)]; split
                     · omega
                     · exact h x hx
  | push hb _ _ hm ht ih =>
    intro ho hl h x hx
    have h1 := h _ hb
    rw [rd_setn _ _ _ _ (by have := ht.len; omega)]; split
    · omega
    · exact ih ho (by omega) h x hx
  | fail hb _ _ hm ht _ ih1 ih2 =>
    intro ho hl h
    have h1 := h _ hb
    exact ih2 (by have := ht.len; omega) hl (ih1 ho (by omega) h)
theorem Tk.mono {F : Nat → Nat → Bool} {nb l b : Nat} {o o' : List Int} {t t' : List Bool} {r : Bool} (h : Tk F nb l b o t r o' t') :
    t.length = nb → ∀ x : Nat, rdOf false t (x : Int) = true → rdOf false t' (x : Int) = true := by
  induction h with
  | done _ => intro _ _ h; exact h
  | skip _ _ _ ih => exact ih
  | free hb _ _ _ => intro ht x hx; rw [rdOf_setn _ _ _ _ (by omega)]; split
                     · rfl
                     · exact hx
  | push hb _ _ _ _ ih => intro ht x hx; exact ih (by simpa using ht) x (by rw [rdOf_setn _ _ _ _ (by omega)]; split <;> simp_all)
  | fail hb _ _ _ hs _ ih1 ih2 => intro ht x hx; exact ih2 (by have := hs.len; simp at this; omega) x (ih1 (by simpa using ht) x (by rw [rdOf_setn _ _ _ _ (by omega)]; split <;> simp_all))
theorem Tk.kept {F : Nat → Nat → Bool} {nb l b : Nat} {o o' : List Int} {t t' : List Bool} {r : Bool} (h : Tk F nb l b o t r o' t') :
    o.length = nb → t.length = nb → ∀ x : Nat, rdOf false t (x : Int) = true → rd o' (x : Int) = rd o (x : Int) := by
  induction h with
  | done _ => intro _ _ _ _; rfl
  | skip _ _ _ ih => exact ih
  | free hb _ h0 _ =>
    intro ho ht x hx; rw [rd_setn _ _ _ _ (by omega)]; split
    · subst x; rw [h0] at hx; cases hx
    · rfl
  | push hb _ h0 _ hs ih =>
    intro ho ht x hx
    rw [rd_setn _ _ _ _ (by have := hs.len; omega)]; split
    · subst x; rw [h0] at hx; cases hx
    · exact ih ho (by simpa using ht) x (by rw [rdOf_setn _ _ _ _ (by omega)]; split <;> simp_all)
  | @fail l b m o o' o'' t t' t'' r hb _ h0 _ hs _ ih1 ih2 =>
    intro ho ht x hx
    have h1 : rdOf false (t.set b true) (x : Int) = true := by rw [rdOf_setn _ _ _ _ (by omega)]; split <;> simp_all
    have := hs.len; simp at this
    rw [ih2 (by omega) (by omega) x (hs.mono (by simpa using ht) x h1), ih1 ho (by simpa using ht) x h1]
theorem Tk.dead {F : Nat → Nat → Bool} {nb l b : Nat} {o o' : List Int} {t t' : List Bool} {r : Bool} (h : Tk F nb l b o t r o' t') (D : Nat → Prop) :
    o.length = nb → (∀ x, D x → x < nb ∧ ∃ m : Nat, rd o (x : Int) = (m : Int) ∧ ∀ y, y < nb → F m y = true → D y) →
    (∀ x, D x → rd o' (x : Int) = rd o (x : Int)) ∧ ((∀ x, b ≤ x → x < nb → F l x = true → D x) → r = false) := by
  induction h with
  | done _ => intro _ _; exact ⟨fun _ _ => rfl, fun _ => rfl⟩
  | skip hb hc hs ih => intro ho hD; exact ⟨(ih ho hD).1, fun hF => (ih ho hD).2 fun x h1 h2 h3 => hF x (by omega) h2 h3⟩
  | @free l b o t hb hf h0 hn =>
    intro ho hD
    have hno : ¬ D b := fun hd => by obtain ⟨_, m, hm, _⟩ := hD b hd; omega
    refine ⟨fun x hx => ?_, fun hF => absurd (hF b (Nat.le_refl _) hb hf) hno⟩
    rw [rd_setn _ _ _ _ (by omega), if_neg]
    intro e; subst e; exact hno hx
  | @push l b m o o' t t' hb hf h0 hm hs ih =>
    intro ho hD
    obtain ⟨i1, i2⟩ := ih ho hD
    have hno : ¬ D b := fun hd => by
      obtain ⟨_, m', hm', hy⟩ := hD b hd
      have e : m' = m := by omega
      subst e
      exact absurd (i2 fun x _ h2 h3 => hy x h2 h3) (by simp)
    refine ⟨fun x hx => ?_, fun hF => absurd (hF b (Nat.le_refl _) hb hf) hno⟩
    rw [rd_setn _ _ _ _ (by have := hs.len; omega), if_neg, i1 x hx]
    intro e; subst e; exact hno hx
  | @fail l b m o o' o'' t t' t'' r hb hf h0 hm hs hr ih1 ih2 =>
    intro ho hD
    obtain ⟨i1, _⟩ := ih1 ho hD
    obtain ⟨j1, j2⟩ := ih2 (by have := hs.len; omega) (fun x hx => by
      obtain ⟨h1, m', h2, h3⟩ := hD x hx
      exact ⟨h1, m', by rw [i1 x hx]; exact h2, h3⟩)
    exact ⟨fun x hx => by rw [j1 x hx, i1 x hx], fun hF => j2 fun x h1 h2 h3 => hF x (by omega) h2 h3⟩
theorem Tk.fails {F : Nat → Nat → Bool} {nb l b : Nat} {o o' : List Int} {t t' : List Bool} {r : Bool} (h : Tk F nb l b o t r o' t') :
    t.length = nb → r = false → o' = o ∧ (∀ x, b ≤ x → x < nb → F l x = true → rdOf false t' (x : Int) = true) ∧
      ∀ x : Nat, x < nb → rdOf false t' (x : Int) = true → rdOf false t (x : Int) = true ∨ ∃ m : Nat, rd o (x : Int) = (m : Int) ∧ ∀ y, y < nb → F m y = true → rdOf false t' (y : Int) = true := by
  induction h with
  | done hb => intro _ _; exact ⟨rfl, fun x h1 h2 _ => by omega, fun x _ h => .inl h⟩
  | @skip l b o o' t t' r hb hc hs ih =>
    intro ht hr
    obtain ⟨h1, h2, h3⟩ := ih ht hr
    refine ⟨h1, fun x a1 a2 a3 => ?_, h3⟩
    rcases Nat.lt_or_ge b x with h | h
    · exact h2 x h a2 a3
    · obtain rfl : x = b := by omega
      rcases hc with hc | hc
      · rw [hc] at a3; cases a3
      · exact hs.mono ht x hc
  | free _ _ _ _ => intro _ hr; cases hr
  | push _ _ _ _ _ _ => intro _ hr; cases hr
  | @fail l b m o o' o'' t t' t'' r hb hf h0 hm hs hq ih1 ih2 =>
    intro ht hr
    have hl := hs.len; simp at hl
    obtain ⟨e1, f1, g1⟩ := ih1 (by simpa using ht) rfl
    obtain ⟨e2, f2, g2⟩ := ih2 (by omega) hr
    have mo := hq.mono (by omega)
    have mb : rdOf false t' (b : Int) = true := hs.mono (by simpa using ht) b (by rw [rdOf_setn _ _ _ _ (by omega), if_pos rfl])
    subst e1
    refine ⟨e2, fun x a1 a2 a3 => ?_, fun x a1 a2 => ?_⟩
    · rcases Nat.lt_or_ge b x with h | h
      · exact f2 x h a2 a3
      · obtain rfl : x = b := by omega
        exact mo x mb
    · rcases g2 x a1 a2 with h | h
      · rcases g1 x a1 h with h' | ⟨m', h1, h2⟩
        · rw [rdOf_setn _ _ _ _ (by omega)] at h'
          split at h'
          · subst x; exact .inr ⟨m, hm, fun y hy hy2 => mo y (f1 y (Nat.zero_le _) hy hy2)⟩
          · exact .inl h'
        · exact .inr ⟨m', h1, fun y hy hy2 => mo y (h2 y hy hy2)⟩
      · exact .inr h
structure Owns (F : Nat → Nat → Bool) (U : Nat → Prop) (o : List Int) : Prop where
  inj : ∀ x y (m : Nat), U x → U y → rd o (x : Int) = (m : Int) → rd o (y : Int) = (m : Int) → x = y
  fit : ∀ x (m : Nat), U x → rd o (x : Int) = (m : Int) → F m x = true
theorem Tk.takes {F : Nat → Nat → Bool} {nb l b : Nat} {o o' : List Int} {t t' : List Bool} {r : Bool} (h : Tk F nb l b o t r o' t') :
    o.length = nb → t.length = nb → r = true → Owns F (fun x => x < nb ∧ rdOf false t (x : Int) = false) o → (∀ x : Nat, x < nb → rdOf false t (x : Int) = false → rd o (x : Int) ≠ (l : Int)) →
    Owns F (fun x => x < nb ∧ rdOf false t (x : Int) = false) o' ∧ ∀ m : Nat, (∃ x : Nat, (x < nb ∧ rdOf false t (x : Int) = false) ∧ rd o' (x : Int) = (m : Int)) ↔ (m = l ∨ ∃ x : Nat, (x < nb ∧ rdOf false t (x : Int) = false) ∧ rd o (x : Int) = (m : Int)) := by
  induction h with
  | done _ => intro _ _ hr; cases hr
  | skip _ _ _ ih => exact ih
  | @free l b o t hb hf h0 hn =>
    intro ho ht _ hO hl
    have e : ∀ x : Nat, rd (o.set b (l : Int)) (x : Int) = if x = b then (l : Int) else rd o (x : Int) := fun x => rd_setn _ _ _ _ (by omega)
    refine ⟨⟨fun x y m hx hy h1 h2 => ?_, fun x m hx h1 => ?_⟩, fun m => ⟨?_, ?_⟩⟩
    · rw [e] at h1 h2
      split at h1 <;> split at h2
      · omega
      · have := hl y hy.1 hy.2; omega
      · have := hl x hx.1 hx.2; omega
      · exact hO.inj x y m hx hy h1 h2
    · rw [e] at h1
      split at h1
      · obtain rfl : l = m := by omega
        subst x; exact hf
      · exact hO.fit x m hx h1
    · rintro ⟨x, hx, h1⟩
      rw [e] at h1
      split at h1
      · exact .inl (by omega)
      · exact .inr ⟨x, hx, h1⟩
    · rintro (h1 | ⟨x, hx, h1⟩)
      · exact ⟨b, ⟨hb, h0⟩, by rw [e, if_pos rfl, h1]⟩
      · refine ⟨x, hx, ?_⟩
        rw [e, if_neg]
        · exact h1
        · intro e2; subst e2; omega
  | @push l b m o o' t t' hb hf h0 hm hs ih =>
    intro ho ht _ hO hl
    have e1 : ∀ x : Nat, rdOf false (t.set b true) (x : Int) = if x = b then true else rdOf false t (x : Int) := fun x => rdOf_setn _ _ _ _ (by omega)
    have sub : ∀ x : Nat, (x < nb ∧ rdOf false (t.set b true) (x : Int) = false) ↔ (x < nb ∧ rdOf false t (x : Int) = false) ∧ x ≠ b := fun x => by
      rw [e1]; split
      · simp_all
      · simp_all
    have e : ∀ x : Nat, rd (o'.set b (l : Int)) (x : Int) = if x = b then (l : Int) else rd o' (x : Int) := fun x => rd_setn _ _ _ _ (by have := hs.len; omega)
    obtain ⟨hO', hL⟩ := ih ho (by simpa using ht) rfl ⟨fun x y k hx hy => hO.inj x y k ((sub x).mp hx).1 ((sub y).mp hy).1, fun x k hx => hO.fit x k ((sub x).mp hx).1⟩
      (fun x h1 h2 h3 => ((sub x).mp ⟨h1, h2⟩).2 (hO.inj x b m ((sub x).mp ⟨h1, h2⟩).1 ⟨hb, h0⟩ h3 hm))
    have hlm : l ≠ m := fun e2 => hl b hb h0 (by rw [hm, e2])
    have hlo : ∀ x : Nat, x < nb → rdOf false t (x : Int) = false → x ≠ b → rd o' (x : Int) ≠ (l : Int) := fun x h1 h2 h3 h4 => by
      rcases (hL l).mp ⟨x, (sub x).mpr ⟨⟨h1, h2⟩, h3⟩, h4⟩ with h5 | ⟨y, h5, h6⟩
      · exact hlm h5
      · exact hl y ((sub y).mp h5).1.1 ((sub y).mp h5).1.2 h6
    refine ⟨⟨fun x y k hx hy h1 h2 => ?_, fun x k hx h1 => ?_⟩, fun k => ⟨?_, ?_⟩⟩
    · rw [e] at h1 h2
      split at h1 <;> split at h2
      · omega
      · rename_i q1 q2; exact absurd (show rd o' (y : Int) = (l : Int) by omega) (hlo y hy.1 hy.2 q2)
      · rename_i q1 q2; exact absurd (show rd o' (x : Int) = (l : Int) by omega) (hlo x hx.1 hx.2 q1)
      · rename_i q1 q2; exact hO'.inj x y k ((sub x).mpr ⟨hx, q1⟩) ((sub y).mpr ⟨hy, q2⟩) h1 h2
    · rw [e] at h1
      split at h1
      · obtain rfl : l = k := by omega
        subst x; exact hf
      · rename_i q; exact hO'.fit x k ((sub x).mpr ⟨hx, q⟩) h1
    · rintro ⟨x, hx, h1⟩
      rw [e] at h1
      split at h1
      · exact .inl (by omega)
      · rename_i q
        rcases (hL k).mp ⟨x, (sub x).mpr ⟨hx, q⟩, h1⟩ with h2 | ⟨y, h2, h3⟩
        · exact .inr ⟨b, ⟨hb, h0⟩, by rw [hm, h2]⟩
        · exact .inr ⟨y, ((sub y).mp h2).1, h3⟩
    · rintro (h1 | ⟨x, hx, h1⟩)
      · exact ⟨b, ⟨hb, h0⟩, by rw [e, if_pos rfl, h1]⟩
      · have : k = m ∨ ∃ y : Nat, (y < nb ∧ rdOf false (t.set b true) (y : Int) = false) ∧ rd o (y : Int) = (k : Int) := by
          by_cases q : x = b
          · subst q; exact .inl (by omega)
          · exact .inr ⟨x, (sub x).mpr ⟨hx, q⟩, h1⟩
        obtain ⟨y, hy, hy2⟩ := (hL k).mpr this
        exact ⟨y, ((sub y).mp hy).1, by rw [e, if_neg ((sub y).mp hy).2]; exact hy2⟩
  | @fail l b m o o' o'' t t' t'' r hb hf h0 hm hs hq ih1 ih2 =>
    intro ho ht hr hO hl
    have ln := hs.len; simp at ln
    obtain ⟨rfl, _, _⟩ := hs.fails (by simpa using ht) rfl
    have mo : ∀ x : Nat, rdOf false t' (x : Int) = false → rdOf false t (x : Int) = false := fun x hx => by
      cases hh : rdOf false t (x : Int) with
      | false => rfl
      | true => rw [hs.mono (by simpa using ht) x (by rw [rdOf_setn _ _ _ _ (by omega)]; split <;> simp_all)] at hx; cases hx
    obtain ⟨hO', hL⟩ := ih2 ho (by omega) hr ⟨fun x y k hx hy => hO.inj x y k ⟨hx.1, mo x hx.2⟩ ⟨hy.1, mo y hy.2⟩, fun x k hx => hO.fit x k ⟨hx.1, mo x hx.2⟩⟩ (fun x h1 h2 => hl x h1 (mo x h2))
    have kp := hq.kept ho (by omega)
    have two : ∀ x : Nat, rdOf false t' (x : Int) = false ∨ rd o'' (x : Int) = rd o' (x : Int) := fun x => by
      cases hh : rdOf false t' (x : Int) with
      | false => exact .inl rfl
      | true => exact .inr (kp x hh)
    have cross : ∀ (x y k : Nat), x < nb → rdOf false t' (x : Int) = false → y < nb → rdOf false t (y : Int) = false → rdOf false t' (y : Int) = true → rd o'' (x : Int) = (k : Int) → rd o'' (y : Int) = (k : Int) → False := fun x y k h1 h2 h3 h4 h5 h6 h7 => by
      rw [kp y h5] at h7
      rcases (hL k).mp ⟨x, ⟨h1, h2⟩, h6⟩ with h8 | ⟨z, h8, h9⟩
      · exact hl y h3 h4 (by rw [h7, h8])
      · have := hO.inj z y k ⟨h8.1, mo z h8.2⟩ ⟨h3, h4⟩ h9 h7
        subst this; rw [h5] at h8; cases h8.2
    refine ⟨⟨fun x y k hx hy h1 h2 => ?_, fun x k hx h1 => ?_⟩, fun k => ⟨?_, ?_⟩⟩
    · cases hx2 : rdOf false t' (x : Int) <;> cases hy2 : rdOf false t' (y : Int)
      · exact hO'.inj x y k ⟨hx.1, hx2⟩ ⟨hy.1, hy2⟩ h1 h2
      · exact (cross x y k hx.1 hx2 hy.1 hy.2 hy2 h1 h2).elim
      · exact (cross y x k hy.1 hy2 hx.1 hx.2 hx2 h2 h1).elim
      · rw [kp x hx2] at h1; rw [kp y hy2] at h2; exact hO.inj x y k hx hy h1 h2
    · cases hx2 : rdOf false t' (x : Int)
      · exact hO'.fit x k ⟨hx.1, hx2⟩ h1
      · rw [kp x hx2] at h1; exact hO.fit x k hx h1
    · rintro ⟨x, hx, h1⟩
      cases hx2 : rdOf false t' (x : Int)
      · rcases (hL k).mp ⟨x, ⟨hx.1, hx2⟩, h1⟩ with h2 | ⟨y, h2, h3⟩
        · exact .inl h2
        · exact .inr ⟨y, ⟨h2.1, mo y h2.2⟩, h3⟩
      · rw [kp x hx2] at h1; exact .inr ⟨x, hx, h1⟩
    · rintro (h1 | ⟨x, hx, h1⟩)
      · obtain ⟨y, hy, hy2⟩ := (hL k).mpr (.inl h1)
        exact ⟨y, ⟨hy.1, mo y hy.2⟩, hy2⟩
      · cases hx2 : rdOf false t' (x : Int)
        · obtain ⟨y, hy, hy2⟩ := (hL k).mpr (.inr ⟨x, ⟨hx.1, hx2⟩, h1⟩)
          exact ⟨y, ⟨hy.1, mo y hy.2⟩, hy2⟩
        · exact ⟨x, hx, by rw [kp x hx2]; exact h1⟩
def cnt (p : Nat → Bool) : Nat → Nat
  | 0 => 0
  | n + 1 => cnt p n + (p n).toNat
theorem cnt_congr {p q : Nat → Bool} {n : Nat} (h : ∀ i, i < n → p i = q i) : cnt p n = cnt q n := by
  induction n with
  | zero => rfl
  | succ n ih => simp only [cnt]; rw [ih fun i hi => h i (by omega), h n (by omega)]
theorem cnt_le (p : Nat → Bool) (n : Nat) : cnt p n ≤ n := by
  induction n with
  | zero => simp [cnt]
  | succ n ih => simp only [cnt]; cases p n <;> simp <;> omega
theorem cnt_out {p : Nat → Bool} {n j : Nat} (hj : j < n) (hp : p j = true) : cnt p n = cnt (fun i => p i && decide (i ≠ j)) n + 1 := by
  induction n with
  | zero => omega
  | succ n ih =>
    simp only [cnt]
    by_cases e : j = n
    · subst e
      have : cnt (fun i => p i && decide (i ≠ j)) j = cnt p j := cnt_congr fun i hi => by simp; omega
      rw [this, hp]; simp
    · rw [ih (by omega)]
      have : (p n && decide (n ≠ j)) = p n := by simp; omega
      rw [this]; omega
theorem cnt_inj {q : Nat → Bool} {m : Nat} (f : Nat → Nat) (p : Nat → Bool) (n : Nat) (h : ∀ i, i < n → p i = true → f i < m ∧ q (f i) = true) (hi : ∀ i j, i < n → j < n → p i = true → p j = true → f i = f j → i = j) : cnt p n ≤ cnt q m := by
  induction n generalizing q with
  | zero => simp [cnt]
  | succ n ih =>
    simp only [cnt]
    cases hp : p n with
    | false => simp only [Bool.toNat_false, Nat.add_zero]; exact ih (fun i hi2 => h i (by omega)) fun i j h1 h2 => hi i j (by omega) (by omega)
    | true =>
      obtain ⟨h1, h2⟩ := h n (by omega) hp
      rw [cnt_out h1 h2]
      have := ih (q := fun i => q i && decide (i ≠ f n)) (fun i hi2 hpi => by
        obtain ⟨a, b⟩ := h i (by omega) hpi
        refine ⟨a, ?_⟩
        simp only [Bool.and_eq_true, decide_eq_true_eq]
        exact ⟨b, fun e => by have := hi i n (by omega) (by omega) hpi hp e; omega⟩) fun i j h1 h2 => hi i j (by omega) (by omega)
      simp only [Bool.toNat_true]; omega
theorem cnt_add (p : Nat → Bool) (n m : Nat) : cnt p (n + m) = cnt p n + cnt (fun i => p (n + i)) m := by
  induction m with
  | zero => rfl
  | succ m ih => rw [← Nat.add_assoc]; simp only [cnt]; rw [ih]; omega
theorem Tk.ex (F : Nat → Nat → Bool) (nb : Nat) : ∀ (u l b : Nat) (o : List Int) (t : List Bool), o.length = nb → t.length = nb → (∀ x : Nat, x < nb → -1 ≤ rd o (x : Int)) → cnt (fun i => !rdOf false t (i : Int)) nb = u →
    ∃ r o' t', Tk F nb l b o t r o' t' ∧ (∀ x : Nat, x < nb → -1 ≤ rd o' (x : Int)) ∧ cnt (fun i => !rdOf false t' (i : Int)) nb ≤ u := by
  intro u
  induction u using Nat.strongRecOn with
  | _ u ihu =>
    have inner : ∀ d l b (o : List Int) (t : List Bool), b + d = nb → o.length = nb → t.length = nb → (∀ x : Nat, x < nb → -1 ≤ rd o (x : Int)) → cnt (fun i => !rdOf false t (i : Int)) nb ≤ u →
        ∃ r o' t', Tk F nb l b o t r o' t' ∧ (∀ x : Nat, x < nb → -1 ≤ rd o' (x : Int)) ∧ cnt (fun i => !rdOf false t' (i : Int)) nb ≤ u := by
      intro d
      induction d with
      | zero => intro l b o t hb ho ht hr hu; exact ⟨false, o, t, .done (by omega), hr, hu⟩
      | succ d ih =>
        intro l b o t hb ho ht hr hu
        have hb' : b < nb := by omega
        by_cases hs : F l b = false ∨ rdOf false t (b : Int) = true
        · obtain ⟨r, o', t', h1, h2, h3⟩ := ih l (b + 1) o t (by omega) ho ht hr hu
          exact ⟨r, o', t', .skip hb' hs h1, h2, h3⟩
        · have hf : F l b = true := by cases hh : F l b <;> simp_all
          have h0 : rdOf false t (b : Int) = false := by cases hh : rdOf false t (b : Int) <;> simp_all
          have e : cnt (fun i => !rdOf false t (i : Int)) nb = cnt (fun i => !rdOf false (t.set b true) (i : Int)) nb + 1 := by
            rw [cnt_out hb' (by rw [h0]; rfl)]
            congr 1
            refine cnt_congr fun i hi => ?_
            rw [rdOf_setn _ _ _ _ (by omega)]; split <;> simp_all
          by_cases hn : rd o (b : Int) < 0
          · refine ⟨true, _, _, .free hb' hf h0 hn, fun x hx => ?_, by omega⟩
            rw [rd_setn _ _ _ _ (by omega)]; split
            · omega
            · exact hr x hx
          · obtain ⟨m, hm⟩ : ∃ m : Nat, rd o (b : Int) = m := ⟨(rd o (b : Int)).toNat, by omega⟩
            obtain ⟨r1, o1, t1, h1, h2, h3⟩ := ihu _ (show cnt (fun i => !rdOf false (t.set b true) (i : Int)) nb < u by omega) m 0 o (t.set b true) ho (by simpa using ht) hr rfl
            have ln := h1.len
            cases r1 with
            | true =>
              refine ⟨true, _, _, .push hb' hf h0 hm h1, fun x hx => ?_, by omega⟩
              rw [rd_setn _ _ _ _ (by omega)]; split
              · omega
              · exact h2 x hx
            | false =>
              obtain ⟨r, o', t', g1, g2, g3⟩ := ih l (b + 1) o1 t1 (by omega) (by omega) (by simp at ln; omega) h2 (by omega)
              exact ⟨r, o', t', .fail hb' hf h0 hm h1 g1, g2, g3⟩
    intro l b o t ho ht hr hu
    rcases Nat.lt_or_ge nb b with h | h
    · exact ⟨false, o, t, .done (by omega), hr, by omega⟩
    · exact inner (nb - b) l b o t (by omega) ho ht hr (by omega)
inductive Ks (F : Nat → Nat → Bool) (nb n : Nat) : Nat → List Int → List Int → Prop where
  | done {j : Nat} {o : List Int} : n ≤ j → Ks F nb n j o o
  | step {j : Nat} {o o' o'' : List Int} {t' : List Bool} {r : Bool} : j < n → Tk F nb j 0 o (List.replicate nb false) r o' t' → Ks F nb n (j + 1) o' o'' → Ks F nb n j o o''
structure Kuhn (F : Nat → Nat → Bool) (nb n : Nat) (o : List Int) : Prop where
  len : o.length = nb
  rng : ∀ x : Nat, x < nb → -1 ≤ rd o (x : Int) ∧ rd o (x : Int) < n
  inj : ∀ (x y m : Nat), x < nb → y < nb → rd o (x : Int) = (m : Int) → rd o (y : Int) = (m : Int) → x = y
  fit : ∀ (x m : Nat), x < nb → rd o (x : Int) = (m : Int) → F m x = true
  dead : ∃ D : Nat → Prop, (∀ x, D x → x < nb ∧ ∃ m : Nat, rd o (x : Int) = (m : Int) ∧ ∀ y, y < nb → F m y = true → D y) ∧ ∀ l, l < n → (∀ x : Nat, x < nb → rd o (x : Int) ≠ (l : Int)) → ∀ y, y < nb → F l y = true → D y
theorem rdOf_rep (nb x : Nat) : rdOf false (List.replicate nb false) (x : Int) = false := by
  simp only [rdOf, Int.toNat_natCast, List.getD_eq_getElem?_getD, List.getElem?_replicate]; split <;> rfl
theorem rd_rep (nb x : Nat) (v : Int) (h : x < nb) : rd (List.replicate nb v) (x : Int) = v := by
  simp [rd, List.getD_eq_getElem?_getD, List.getElem?_replicate, h]
theorem Kuhn.next {F : Nat → Nat → Bool} {nb j : Nat} {o o' : List Int} {t' : List Bool} {r : Bool} (h : Kuhn F nb j o) (ht : Tk F nb j 0 o (List.replicate nb false) r o' t') : Kuhn F nb (j + 1) o' := by
  obtain ⟨len, rng, inj, fit, D, hD, hU⟩ := h
  have ln := ht.len
  have rng' := ht.rng (n := j + 1) len (by omega) (fun x hx => by have := rng x hx; omega)
  have all : ∀ x : Nat, (x < nb ∧ rdOf false (List.replicate nb false) (x : Int) = false) ↔ x < nb := fun x => by rw [rdOf_rep]; simp
  obtain ⟨d1, d2⟩ := ht.dead D len hD
  cases r with
  | true =>
    obtain ⟨hO, hL⟩ := ht.takes len (by simp) rfl ⟨fun x y m hx hy => inj x y m hx.1 hy.1, fun x m hx => fit x m hx.1⟩ (fun x h1 _ h2 => by have := rng x h1; omega)
    refine ⟨by omega, rng', fun x y m hx hy => hO.inj x y m ((all x).mpr hx) ((all y).mpr hy), fun x m hx => hO.fit x m ((all x).mpr hx), D, fun x hx => ?_, fun l hl hu => ?_⟩
    · obtain ⟨h1, m, h2, h3⟩ := hD x hx
      exact ⟨h1, m, by rw [d1 x hx]; exact h2, h3⟩
    · refine hU l ?_ fun x hx hx2 => ?_
      · rcases Nat.lt_or_ge l j with h | h
        · exact h
        · obtain rfl : l = j := by omega
          obtain ⟨x, hx, hx2⟩ := (hL l).mpr (.inl rfl)
          exact absurd hx2 (hu x hx.1)
      · obtain ⟨y, hy, hy2⟩ := (hL l).mpr (.inr ⟨x, (all x).mpr hx, hx2⟩)
        exact hu y hy.1 hy2
  | false =>
    obtain ⟨rfl, f1, f2⟩ := ht.fails (by simp) rfl
    refine ⟨len, rng', inj, fit, fun x => x < nb ∧ (D x ∨ rdOf false t' (x : Int) = true), fun x hx => ?_, fun l hl hu y hy hF => ?_⟩
    · obtain ⟨h0, hx | hx⟩ := hx
      · obtain ⟨h1, m, h2, h3⟩ := hD x hx
        exact ⟨h1, m, h2, fun y hy hF => ⟨hy, .inl (h3 y hy hF)⟩⟩
      · rcases f2 x h0 hx with h | ⟨m, h1, h2⟩
        · rw [rdOf_rep] at h; cases h
        · exact ⟨h0, m, h1, fun y hy hF => ⟨hy, .inr (h2 y hy hF)⟩⟩
    · rcases Nat.lt_or_ge l j with h | h
      · exact ⟨hy, .inl (hU l h hu y hy hF)⟩
      · obtain rfl : l = j := by omega
        exact ⟨hy, .inr (f1 y (Nat.zero_le _) hy hF)⟩
theorem Kuhn.ex (F : Nat → Nat → Bool) (nb n : Nat) : ∀ (d j : Nat) (o : List Int), j + d = n → Kuhn F nb j o → ∃ o', Ks F nb n j o o' ∧ Kuhn F nb n o' := by
  intro d
  induction d with
  | zero => intro j o hj h; obtain rfl : j = n := by omega
            exact ⟨o, .done (Nat.le_refl _), h⟩
  | succ d ih =>
    intro j o hj h
    obtain ⟨r, o', t', h1, _, _⟩ := Tk.ex F nb _ j 0 o (List.replicate nb false) h.len (by simp) (fun x hx => (h.rng x hx).1) rfl
    obtain ⟨o'', h2, h3⟩ := ih (j + 1) o' (by omega) (h.next h1)
    exact ⟨o'', .step (by omega) h1 h2, h3⟩
theorem Kuhn.start (F : Nat → Nat → Bool) (nb : Nat) : Kuhn F nb 0 (List.replicate nb (-1)) := by
  have e : ∀ x : Nat, x < nb → rd (List.replicate nb (-1)) (x : Int) = -1 := fun x hx => rd_rep nb x (-1) hx
  refine ⟨by simp, fun x hx => by rw [e x hx]; omega, fun x y m hx _ h => by rw [e x hx] at h; omega, fun x m hx h => by rw [e x hx] at h; omega, fun _ => False, fun _ h => h.elim, fun l hl => by omega⟩
theorem kuhn (F : Nat → Nat → Bool) (nb n : Nat) : ∃ o, Ks F nb n 0 (List.replicate nb (-1)) o ∧ Kuhn F nb n o := Kuhn.ex F nb n n 0 _ (by omega) (Kuhn.start F nb)
end Go.Proofs.Ytpagpbamdpllnaa.Pure
