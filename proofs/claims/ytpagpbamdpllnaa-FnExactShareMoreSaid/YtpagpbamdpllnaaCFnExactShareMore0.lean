/- At every argument ShareMore of the program answers as ShareMore of the reference, before and after its answer is written over: no condition but the statement's own. -/
import Derived.Test.YtpagpbamdpllnaaProg
import Derived.Test.YtpagpbamdpllnaaCFnExactShareMorew0
import Derived.Below
import Derived.Deep.Draws
import Derived.Deep.AppendLies
import Derived.Maps.AppendAt
import Derived.OwnWalk
import Derived.Laws.BytesArg
import Derived.Laws.MakeOwn
import Derived.Laws.OwnMore
import Derived.Deep.OwnRows
import Derived.Tactics
import Derived.Lib.ConvBytes
import Derived.Laws.Slices
import Derived.WalkKit
import Derived.KernelRfl
import Derived.RowKit3
import Derived.Deep.LoopGhost
import Derived.Deep.QuietTactic
import Derived.BigQuiet
import Derived.WideLaws
import Derived.Deep.DeepCutAuto
import Derived.Deep.CutBlock
import Derived.Deep.RegionHeld3
import Derived.Laws.Rows
import Derived.Lib.AppendStr
import Derived.ArgAppend
import Derived.Laws.IdiomCopy
import Derived.OrdersHeld
import Derived.Laws.BitsLemmas
import Derived.RowKit
import Derived.Laws.CopyOwn
import Derived.Deep.RegionLaw
set_option linter.unusedVariables false
set_option linter.unusedSimpArgs false
namespace Go.Proofs.Ytpagpbamdpllnaa.Print
open Go.RowKit Go.Proofs.YtpagpbamdpllnaaW.PrintWords Go.Proofs.YtpagpbamdpllnaaW.PrintLast Go.Proofs.YtpagpbamdpllnaaW.PrintMore
theorem aM {p : Prop} (h : p) : Aside0 p := ⟨h⟩
theorem aA : type_of% @List.setIfInBounds_toArray.{0} := @List.setIfInBounds_toArray
theorem aB : type_of% @List.set_cons_zero.{0} := @List.set_cons_zero
theorem aC : type_of% @List.set_cons_succ.{0} := @List.set_cons_succ
theorem aD : type_of% @List.map_toArray.{0,0} := @List.map_toArray
theorem aE : type_of% @List.map_cons.{0,0} := @List.map_cons
theorem aF : type_of% @List.map_nil.{0,0} := @List.map_nil
theorem aG : type_of% @List.length_drop.{0} := @List.length_drop
theorem aH : type_of% @List.length_take.{0} := @List.length_take
theorem aI : type_of% @World.block_lt_of_cell? := @World.block_lt_of_cell?
theorem aJ : type_of% @Option.bind_eq_some_iff.{0,0} := @Option.bind_eq_some_iff
end Go.Proofs.Ytpagpbamdpllnaa.Print

namespace Go.Proofs.Ytpagpbamdpllnaa.Print
open Go.RowKit Go.Proofs.YtpagpbamdpllnaaW.PrintWords Go.Proofs.YtpagpbamdpllnaaW.PrintLast Go.Proofs.YtpagpbamdpllnaaW.PrintMore
attribute [local go_sem] max2_int min2_int max_two min_two max_three min_three max_four min_four



def errW:Option Int→Value
  |none=> .nilIface
  |some c=> .iface 0 (.int .i64 c)
theorem errW_none:errW none= .nilIface:=rfl
theorem errW_some (c:Int):errW (some c)= .iface 0 (.int .i64 c):=rfl

theorem info3:(Try.prog.info? 3).map (fun i=>(i.zero,i.size,i.bytes))=some (some (.int .i64 0),1,8):=by kernel_rfl
theorem info4:(Try.prog.info? 4).map (fun i=>(i.zero,i.size,i.bytes))=some (some (.bool false),1,1):=by kernel_rfl
theorem info23:(Try.prog.info? 23).map (fun i=>(i.zero,i.size,i.bytes))=some (some (.slice none 0 0),1,24):=by kernel_rfl
theorem info35:(Try.prog.info? 35).map (fun i=>(i.zero,i.size,i.bytes))=some (some (.agg #[(.int .i64 0),(.int .i64 0)]),2,16):=by kernel_rfl
theorem info44:(Try.prog.info? 44).map (fun i=>(i.zero,i.size,i.bytes))=some (some (.agg #[(.int .i64 0),(.int .i64 0),(.int .i64 0),(.int .i64 0)]),4,32):=by kernel_rfl
theorem info53:(Try.prog.info? 53).map (fun i=>(i.zero,i.size,i.bytes))=some (some (.agg #[(.slice none 0 0)]),1,24):=by kernel_rfl
theorem info88:(Try.prog.info? 88).map (fun i=>(i.zero,i.size,i.bytes))=some (some (.slice none 0 0),1,24):=by kernel_rfl
-- the values' own types
def rd_L2 (xs:List (List Int)) (i:Int):(List Int):=xs.getD i.toNat ([]:List Int)
theorem at_L2 {w:World} {A:Option Addr} {n:Nat} {xs:List (List Int)} (h:Kd.C (Kd.slice 3 (Kd.int .i64)) w A n xs) (i:Int) (h0:0≤i) (h1:i<n):∃ ad A0 c0,A=some ad∧w.cell? (ad.add i.toNat)=some (.slice A0 (rd_L2 xs i).length c0)∧(rd_L2 xs i).length≤c0∧(Kd.int .i64).C w A0 (rd_L2 xs i).length (rd_L2 xs i):=by
  obtain ⟨ad,c,e,_,hK,hc0⟩:=Kd.C_get h ([]:List Int) i h0 h1;have hc:∀ j u,c[j]? = some u→w.cell? (ad.add (i.toNat * 1+j))=some u:=hc0;obtain ⟨A0,c0,rfl,l0,g0⟩:=hK;exact ⟨ad,A0,c0,e,by have hq:=hc 0 _ rfl;rwa [Nat.mul_one,Nat.add_zero] at hq,l0,g0⟩

structure S35 where
  f0:Int
  f1:Int
def z35:S35:=⟨(0:Int),(0:Int)⟩
def k35:Kd S35:=Kd.iso (Kd.pair (Kd.int .i64) (Kd.int .i64)) (fun x:S35=>(x.f0,x.f1))
theorem k35_heap:Kd.Heap k35:=Kd.heap_iso _ (Kd.heap_pair (Kd.heap_int .i64) (Kd.heap_int .i64))
theorem k35_open {w:World} {x:S35} {cs:List Value} (h:k35.K w x cs):cs=[.int .i64 x.f0,.int .i64 x.f1]:=by
  obtain ⟨_,_,rfl,rfl,rfl⟩:=h;exact rfl
theorem k35_openM {w:World} {base:Nat} {ok:Nat→Prop} {x:S35} {cs:List Value} (h:k35.M w base ok x cs):cs=[.int .i64 x.f0,.int .i64 x.f1]:=by
  obtain ⟨_,_,rfl,rfl,rfl⟩:=h;exact rfl
theorem k35_mk (w:World) (x:S35)  :k35.K w x [.int .i64 x.f0,.int .i64 x.f1]:=⟨[.int .i64 x.f0],[.int .i64 x.f1],rfl,rfl,rfl⟩
theorem k35_mkM (w:World) (base:Nat) (ok:Nat→Prop) (x:S35)  :k35.M w base ok x [.int .i64 x.f0,.int .i64 x.f1]:=⟨[.int .i64 x.f0],[.int .i64 x.f1],rfl,rfl,rfl⟩
theorem k35_mkF (W:World) (ok:Nat→Prop) (x:S35):Kd.FK k35 W ok x [.int .i64 x.f0,.int .i64 x.f1]:=fun W2 _=>k35_mk W2 x
def rd_T35 (xs:List S35) (i:Int):S35:=xs.getD i.toNat z35
theorem at_T35 {w:World} {A:Option Addr} {n:Nat} {xs:List S35} (h:Kd.C k35 w A n xs) (i:Int) (h0:0≤i) (h1:i<n):∃ ad,A=some ad∧w.cell? (ad.add (i.toNat * 2))=some (.int .i64 (rd_T35 xs i).f0)∧w.cell? ⟨(ad.add (i.toNat * 2)).block,(ad.add (i.toNat * 2)).off+1,none⟩=some (.int .i64 (rd_T35 xs i).f1):=by
  obtain ⟨ad,c,e,_,hK,hc0⟩:=Kd.C_get h z35 i h0 h1;have hc:∀ j u,c[j]? = some u→w.cell? (ad.add (i.toNat * 2+j))=some u:=hc0;obtain rfl:=k35_open hK;exact ⟨ad,e,hc 0 _ rfl,by rw [←add_field _ _ 1 (by omega)];exact hc 1 _ rfl⟩

structure S44 where
  f0:S35
  f1:S35
def z44:S44:=⟨z35,z35⟩
def k44:Kd S44:=Kd.iso (Kd.pair k35 k35) (fun x:S44=>(x.f0,x.f1))
theorem k44_heap:Kd.Heap k44:=Kd.heap_iso _ (Kd.heap_pair k35_heap k35_heap)
theorem k44_open {w:World} {x:S44} {cs:List Value} (h:k44.K w x cs):cs=[.int .i64 x.f0.f0,.int .i64 x.f0.f1,.int .i64 x.f1.f0,.int .i64 x.f1.f1]:=by
  obtain ⟨_,_,rfl,s0,s2⟩:=h;obtain rfl:=k35_open s0;obtain rfl:=k35_open s2;exact rfl
theorem k44_openM {w:World} {base:Nat} {ok:Nat→Prop} {x:S44} {cs:List Value} (h:k44.M w base ok x cs):cs=[.int .i64 x.f0.f0,.int .i64 x.f0.f1,.int .i64 x.f1.f0,.int .i64 x.f1.f1]:=by
  obtain ⟨_,_,rfl,s0,s2⟩:=h;obtain rfl:=k35_openM s0;obtain rfl:=k35_openM s2;exact rfl
theorem k44_mk (w:World) (x:S44)  :k44.K w x [.int .i64 x.f0.f0,.int .i64 x.f0.f1,.int .i64 x.f1.f0,.int .i64 x.f1.f1]:=⟨[.int .i64 x.f0.f0,.int .i64 x.f0.f1],[.int .i64 x.f1.f0,.int .i64 x.f1.f1],rfl,(k35_mk w x.f0),(k35_mk w x.f1)⟩
theorem k44_mkM (w:World) (base:Nat) (ok:Nat→Prop) (x:S44)  :k44.M w base ok x [.int .i64 x.f0.f0,.int .i64 x.f0.f1,.int .i64 x.f1.f0,.int .i64 x.f1.f1]:=⟨[.int .i64 x.f0.f0,.int .i64 x.f0.f1],[.int .i64 x.f1.f0,.int .i64 x.f1.f1],rfl,(k35_mkM w base ok x.f0),(k35_mkM w base ok x.f1)⟩
theorem k44_mkF (W:World) (ok:Nat→Prop) (x:S44):Kd.FK k44 W ok x [.int .i64 x.f0.f0,.int .i64 x.f0.f1,.int .i64 x.f1.f0,.int .i64 x.f1.f1]:=fun W2 _=>k44_mk W2 x
def rd_T44 (xs:List S44) (i:Int):S44:=xs.getD i.toNat z44
theorem at_T44 {w:World} {A:Option Addr} {n:Nat} {xs:List S44} (h:Kd.C k44 w A n xs) (i:Int) (h0:0≤i) (h1:i<n):∃ ad,A=some ad∧w.cell? (ad.add (i.toNat * 4))=some (.int .i64 (rd_T44 xs i).f0.f0)∧w.cell? ⟨(ad.add (i.toNat * 4)).block,(ad.add (i.toNat * 4)).off+1,none⟩=some (.int .i64 (rd_T44 xs i).f0.f1)∧w.cell? ⟨(ad.add (i.toNat * 4)).block,(ad.add (i.toNat * 4)).off+2,none⟩=some (.int .i64 (rd_T44 xs i).f1.f0)∧w.cell? ⟨(ad.add (i.toNat * 4)).block,(ad.add (i.toNat * 4)).off+3,none⟩=some (.int .i64 (rd_T44 xs i).f1.f1):=by
  obtain ⟨ad,c,e,_,hK,hc0⟩:=Kd.C_get h z44 i h0 h1;have hc:∀ j u,c[j]? = some u→w.cell? (ad.add (i.toNat * 4+j))=some u:=hc0;obtain rfl:=k44_open hK;exact ⟨ad,e,hc 0 _ rfl,by rw [←add_field _ _ 1 (by omega)];exact hc 1 _ rfl,by rw [←add_field _ _ 2 (by omega)];exact hc 2 _ rfl,by rw [←add_field _ _ 3 (by omega)];exact hc 3 _ rfl⟩

structure S53 where
  f0:(List Int)
def z53:S53:=⟨([]:List Int)⟩
def k53:Kd S53:=Kd.iso (Kd.slice 3 (Kd.int .i64)) (fun x:S53=>x.f0)
theorem k53_heap:Kd.Heap k53:=Kd.heap_iso _ (Kd.heap_slice 3 (Kd.heap_int .i64))
theorem k53_open {w:World} {x:S53} {cs:List Value} (h:k53.K w x cs):∃ A0 c0,cs=[.slice A0 x.f0.length c0]∧x.f0.length≤c0∧(Kd.int .i64).C w A0 x.f0.length x.f0:=by
  obtain ⟨A0,c0,rfl,l0,g0⟩:=h;exact ⟨A0,c0,rfl,l0,g0⟩
theorem k53_openM {w:World} {base:Nat} {ok:Nat→Prop} {x:S53} {cs:List Value} (h:k53.M w base ok x cs):∃ v0,cs=[v0]∧(Kd.int .i64).R 3 w base ok v0 x.f0:=by
  obtain ⟨v0,rfl,g0⟩:=h;exact ⟨v0,rfl,g0⟩
theorem k53_mk (w:World) (x:S53) {A0:Option Addr} {c0:Nat} (l0:x.f0.length≤c0) (g0:(Kd.int .i64).C w A0 x.f0.length x.f0):k53.K w x [.slice A0 x.f0.length c0]:=⟨A0,c0,rfl,l0,g0⟩
theorem k53_mkM (w:World) (base:Nat) (ok:Nat→Prop) (x:S53) {v0:Value} (g0:(Kd.int .i64).R 3 w base ok v0 x.f0):k53.M w base ok x [v0]:=⟨v0,rfl,g0⟩
theorem k53_openF {W:World} {ok:Nat→Prop} {x:S53} {cs:List Value} (h:Kd.FK k53 W ok x cs):∃ A0 c0,cs=[.slice A0 x.f0.length c0]∧x.f0.length≤c0∧Kd.F (Kd.int .i64) W ok A0 x.f0.length x.f0:=by
  obtain ⟨A0,c0,rfl,l0,_⟩:=k53_open (Kd.FK_now h);exact ⟨A0,c0,rfl,l0,(fun W' hW=>by obtain ⟨A0_,c0_,he,l0_,g0_⟩:=k53_open (h W' hW);injection (Option.some.inj (show some (Value.slice A0 x.f0.length c0)=some (Value.slice A0_ x.f0.length c0_) from congrArg (fun l=>l[0]?) he)) with ha_ _ _;rw [ha_];exact g0_)⟩
theorem k53_mkF (W:World) (ok:Nat→Prop) (x:S53) {A0:Option Addr} {c0:Nat} (l0:x.f0.length≤c0) (g0:Kd.F (Kd.int .i64) W ok A0 x.f0.length x.f0):Kd.FK k53 W ok x [.slice A0 x.f0.length c0]:=fun W2 hW=>k53_mk W2 x l0 (g0 W2 hW)
def rd_T53 (xs:List S53) (i:Int):S53:=xs.getD i.toNat z53
theorem at_T53 {w:World} {A:Option Addr} {n:Nat} {xs:List S53} (h:Kd.C k53 w A n xs) (i:Int) (h0:0≤i) (h1:i<n):∃ ad A0 c0,A=some ad∧w.cell? (ad.add i.toNat)=some (.slice A0 (rd_T53 xs i).f0.length c0)∧(rd_T53 xs i).f0.length≤c0∧(Kd.int .i64).C w A0 (rd_T53 xs i).f0.length (rd_T53 xs i).f0:=by
  obtain ⟨ad,c,e,_,hK,hc0⟩:=Kd.C_get h z53 i h0 h1;have hc:∀ j u,c[j]? = some u→w.cell? (ad.add (i.toNat * 1+j))=some u:=hc0;obtain ⟨A0,c0,rfl,l0,g0⟩:=k53_open hK;exact ⟨ad,A0,c0,e,by have hq:=hc 0 _ rfl;rwa [Nat.mul_one,Nat.add_zero] at hq,l0,g0⟩

def rd_L7 (xs:List (List Bool)) (i:Int):(List Bool):=xs.getD i.toNat ([]:List Bool)
theorem at_L7 {w:World} {A:Option Addr} {n:Nat} {xs:List (List Bool)} (h:Kd.C (Kd.slice 4 Kd.bool) w A n xs) (i:Int) (h0:0≤i) (h1:i<n):∃ ad A0 c0,A=some ad∧w.cell? (ad.add i.toNat)=some (.slice A0 (rd_L7 xs i).length c0)∧(rd_L7 xs i).length≤c0∧Kd.bool.C w A0 (rd_L7 xs i).length (rd_L7 xs i):=by
  obtain ⟨ad,c,e,_,hK,hc0⟩:=Kd.C_get h ([]:List Bool) i h0 h1;have hc:∀ j u,c[j]? = some u→w.cell? (ad.add (i.toNat * 1+j))=some u:=hc0;obtain ⟨A0,c0,rfl,l0,g0⟩:=hK;exact ⟨ad,A0,c0,e,by have hq:=hc 0 _ rfl;rwa [Nat.mul_one,Nat.add_zero] at hq,l0,g0⟩

def impl_within.f (a0:Int) (a1:Int) (a2:Int):Option (Bool):=if a0 ≥ a1 then (some (decide (a0≤a2))) else (some false)
set_option maxHeartbeats 8000000 in
set_option maxRecDepth 100000 in
theorem impl_within.calls (a0:Int) (a1:Int) (a2:Int) (r:Bool) (w:World) (h:impl_within.f a0 a1 a2=some r) :
    Calls Try.prog 113 #[.int .i64 a0,.int .i64 a1,.int .i64 a2] w fun e w'=>e= .returned (.bool r)∧Drawn0 w w':=by
  have H:(if a0 ≥ a1 then (some (decide (a0≤a2))) else (some false))=some r:=h;clear h;by_cases c4:a0 ≥ a1
  ·rw [if_pos c4] at H;have c4b0:decide (a1≤a0)=true:=decide_eq_true c4;clear c4;obtain rfl:=Option.some.inj H;go_enter Try.func113,Try.ntmps113;go_wp2
   go_ret
   exact ⟨by first|rfl|(simp;done)|(simp [*];done),by repeat (first|exact Drawn0.refl _|apply Drawn0.step)⟩
  ·rw [if_neg c4] at H;have c4b0:decide (a1≤a0)=false:=decide_eq_false c4;clear c4;obtain rfl:=Option.some.inj H;go_enter Try.func113,Try.ntmps113;go_wp2
   go_ret
   exact ⟨by first|rfl|(simp;done)|(simp [*];done),by repeat (first|exact Drawn0.refl _|apply Drawn0.step)⟩

def impl_allWithin_1.f (a0:Int) (a1_0_0:Int) (a2_0_0:Int):Option (Bool):=(impl_within.f a0 a1_0_0 a2_0_0).bind fun t101=>(some (!t101))
set_option maxHeartbeats 8000000 in
set_option maxRecDepth 100000 in
theorem impl_allWithin_1.calls (a0:Int) (g1_0:Nat) (a1_0_0:Int) (g2_0:Nat) (a2_0_0:Int) (r:Bool) (w:World) (hg1_0:w.heap[g1_0]? = some (.cells #[.int .i64 a1_0_0] 3 (0,0))) (hg2_0:w.heap[g2_0]? = some (.cells #[.int .i64 a2_0_0] 3 (0,0))) (h:impl_allWithin_1.f a0 a1_0_0 a2_0_0=some r) :
    Calls Try.prog 209 #[.int .i64 a0,.pointer (some ⟨g1_0,0,none⟩),.pointer (some ⟨g2_0,0,none⟩)] w fun e w'=>e= .returned (.bool r)∧Drawn0 w w':=by
  have BK46:=aM hg1_0;clear hg1_0;have BK52:=aM hg2_0;clear hg2_0;have H:((impl_within.f a0 a1_0_0 a2_0_0).bind fun t101=>(some (!t101)))=some r:=h;clear h;replace H:=Option.bind_eq_some_iff.mp H;obtain ⟨t101,A40,H⟩:=H;replace H:(some (!t101))=some r:=H;have A4:=aM A40;clear A40;obtain rfl:=Option.some.inj H;have hcz5_0:w.cell? ⟨g1_0,0,none⟩=some (.int .i64 a1_0_0):=(blk_cell BK46.out 0).trans rfl;have hfz5_0:=Qk BK46.out 0;have hcz6_0:w.cell? ⟨g2_0,0,none⟩=some (.int .i64 a2_0_0):=(blk_cell BK52.out 0).trans rfl;have hfz6_0:=Qk BK52.out 0;go_enter Try.func209,Try.ntmps209;go_wp2_with (first|((with_reducible refine Qh (f:=113) rfl ?_);refine goesL_ (some 8) rfl rfl Try.func113 (by kernel_rfl) rfl #[.int .i64 a0,.int .i64 a1_0_0,.int .i64 a2_0_0] rfl (by (try simp only [aD,aE,aF]);first|done|rfl|(simp only [aG,aH];rfl)) ?_;(with_reducible refine (impl_within.calls a0 a1_0_0 a2_0_0 t101 _ A4.out).mono ?_);rintro e w' ⟨rfl,⟨nd,rfl⟩⟩;refine ⟨_,rfl,?_⟩))
  go_ret
  exact ⟨by first|rfl|(simp;done)|(simp [*];done),by repeat (first|exact Drawn0.refl _|apply Drawn0.step)⟩

def sl1_IndexFunc.l0:Nat→List Int→Int→Int→Int→Int→Option (Int)
  |0,_,_,_,_,_=>none
  |k+1,x0,x7,x8,x47000,x48000=>if x8<x7 then (if 0≤x8 then (if x8<(x0.length:Int) then ((impl_allWithin_1.f (rd x0 x8) x47000 x48000).bind fun t102=>(if t102=true then (some x8) else (sl1_IndexFunc.l0 k x0 x7 (wrap64 (x8+1)) x47000 x48000))) else (none)) else (none)) else (some (-1))
def sl1_IndexFunc.f (k:Nat) (l0:List Int) (a1_0_0:Int) (a1_1_0:Int):Option (Int):=sl1_IndexFunc.l0 k l0 (l0.length:Int) 0 a1_0_0 a1_1_0
set_option maxHeartbeats 8000000 in
set_option maxRecDepth 100000 in
theorem sl1_IndexFunc.calls (k:Nat) (A0:Option Addr) (c0:Nat) (l0:List Int) (g1_0:Nat) (a1_0_0:Int) (g1_1:Nat) (a1_1_0:Int) (r:Int) (w:World) (hr0:Kd.C (Kd.int .i64) w A0 l0.length l0) (hc0:l0.length≤c0) (hg1_0:w.heap[g1_0]? = some (.cells #[.int .i64 a1_0_0] 3 (0,0))) (hg1_1:w.heap[g1_1]? = some (.cells #[.int .i64 a1_1_0] 3 (0,0))) (h:sl1_IndexFunc.f k l0 a1_0_0 a1_1_0=some r) :
    Calls Try.prog 235 #[.slice A0 l0.length c0,.func (.func 209) #[] #[.pointer (some ⟨g1_0,0,none⟩),.pointer (some ⟨g1_1,0,none⟩)]] w fun e w'=>e= .returned (.int .i64 r)∧Below w.heap.size w w':=by
  have HR0:=aM hr0;have HC0:=aM hc0;clear hr0 hc0;have BK46:=aM hg1_0;clear hg1_0;have BK47:=aM hg1_1;clear hg1_1;have HB:=aM (Below.refl w.heap.size w);have H:(sl1_IndexFunc.l0 k l0 (l0.length:Int) 0 a1_0_0 a1_1_0)=some r:=h;clear h;have H':=aM H;clear H;go_enter Try.func235,Try.ntmps235;go_wp2;go_loopg [8] k (fun kq v8 w'=>∃ (x8_1:Int),v8= .int .i64 x8_1∧Aside0 (sl1_IndexFunc.l0 kq l0 (l0.length:Int) x8_1 a1_0_0 a1_1_0=some r)∧Aside0 (kq≤k)∧Aside0 (w'.heap[g1_0]? = some (.cells #[.int .i64 a1_0_0] 3 (0,0)))∧Aside0 (w'.heap[g1_1]? = some (.cells #[.int .i64 a1_1_0] 3 (0,0)))∧Aside0 (Below w.heap.size w w'))
  case atStart=>exact ⟨(0),(by first|rfl|(simp;done)|(simp [*];done)),H',⟨Nat.le_refl _⟩,⟨by (with_reducible repeat (first|apply Qe|apply Qf|apply Qd));exact BK46.out⟩,⟨by (with_reducible repeat (first|apply Qe|apply Qf|apply Qd));exact BK47.out⟩,⟨by repeat (first|(with_reducible first|exact HB.out|apply Qc|apply Qa|apply Qb|refine Qg ?_ GE46.out|refine Qg ?_ GE47.out)|exact HB.out)⟩⟩
  case round=>
   clear H';(try clear p2);obtain ⟨x8_1,rfl,HA,HK1,BK46,BK47,HB⟩:=hrel
   cases gk with
   |zero=>exact absurd HA.out (by simp [sl1_IndexFunc.l0])
   |succ k1=>
    have H:=HA.out;clear HA;simp only [sl1_IndexFunc.l0] at H;by_cases c3:x8_1<(l0.length:Int)
    ·rw [if_pos c3] at H;have c3b0:decide (x8_1<(l0.length:Int))=true:=decide_eq_true c3;clear c3;by_cases c4:0≤x8_1
     ·rw [if_pos c4] at H;have c4b0:decide (0≤x8_1)=true:=decide_eq_true c4;clear c4;by_cases c5:x8_1<(l0.length:Int)
      ·rw [if_pos c5] at H;have c5b0:decide (x8_1<(l0.length:Int))=true:=decide_eq_true c5;clear c5;replace H:=Option.bind_eq_some_iff.mp H;obtain ⟨t102,A60,H⟩:=H;replace H:(if t102=true then (some x8_1) else (sl1_IndexFunc.l0 k1 l0 (l0.length:Int) (wrap64 (x8_1+1)) a1_0_0 a1_1_0))=some r:=H;have A6:=aM A60;clear A60;by_cases c7:t102=true
       ·subst c7;have H1:(some x8_1)=some r:=by rw [if_pos rfl] at H;exact H
        clear H;have H:=H1;clear H1;obtain rfl:=Option.some.inj H;have p101:0≤(x8_1:Int):=of_decide_eq_true (by first|(with_reducible assumption)|assumption);have q101:x8_1<(l0.length:Int):=of_decide_eq_true (by first|(with_reducible assumption)|assumption);obtain ⟨ad101,e101,hx101_0⟩:=Kd.at_int HR0.out x8_1 p101 q101
        cases e101
        replace hx101_0:=(HB.out.cell (aI w _ hx101_0)).trans hx101_0;replace p101:=eq_true p101;replace q101:=eq_true q101;go_wp2_with (first|(go_at_call 209;(with_reducible refine (impl_allWithin_1.calls (rd l0 x8_1) g1_0 a1_0_0 g1_1 a1_1_0 true _ ?side1 ?side2 A6.out).mono ?_);(case side1=>exact (by (with_reducible repeat (first|apply Qe|apply Qf|apply Qd));exact BK46.out));(case side2=>exact (by (with_reducible repeat (first|apply Qe|apply Qf|apply Qd));exact BK47.out));rintro e w' ⟨rfl,⟨nd,rfl⟩⟩))
        go_ret
        exact ⟨by first|rfl|(simp [errW_none,errW_some] <;> rfl)|(simp [*,errW_none,errW_some] <;> rfl),by repeat (first|(with_reducible first|exact HB.out|apply Qc|apply Qa|apply Qb|refine Qg ?_ GE46.out|refine Qg ?_ GE47.out)|exact HB.out)⟩
       ·replace c7:=Bool.eq_false_iff.mpr c7;subst c7;have H1:(sl1_IndexFunc.l0 k1 l0 (l0.length:Int) (wrap64 (x8_1+1)) a1_0_0 a1_1_0)=some r:=by rw [if_neg (show ¬ (false=true) by decide)] at H;exact H
        clear H;have H:=H1;clear H1;have H':=aM H;clear H;have p101:0≤(x8_1:Int):=of_decide_eq_true (by first|(with_reducible assumption)|assumption);have q101:x8_1<(l0.length:Int):=of_decide_eq_true (by first|(with_reducible assumption)|assumption);obtain ⟨ad101,e101,hx101_0⟩:=Kd.at_int HR0.out x8_1 p101 q101
        cases e101
        replace hx101_0:=(HB.out.cell (aI w _ hx101_0)).trans hx101_0;replace p101:=eq_true p101;replace q101:=eq_true q101;go_wp2_with (first|(go_at_call 209;(with_reducible refine (impl_allWithin_1.calls (rd l0 x8_1) g1_0 a1_0_0 g1_1 a1_1_0 false _ ?side1 ?side2 A6.out).mono ?_);(case side1=>exact (by (with_reducible repeat (first|apply Qe|apply Qf|apply Qd));exact BK46.out));(case side2=>exact (by (with_reducible repeat (first|apply Qe|apply Qf|apply Qd));exact BK47.out));rintro e w' ⟨rfl,⟨nd,rfl⟩⟩))
        go_roundg k1
        case measure=>have:=HK1.out;omega
        case rel=>exact ⟨(wrap64 (x8_1+1)),(by first|rfl|(simp;done)|(simp [*];done)),H',⟨by have:=HK1.out;omega⟩,⟨by (with_reducible repeat (first|apply Qe|apply Qf|apply Qd));exact BK46.out⟩,⟨by (with_reducible repeat (first|apply Qe|apply Qf|apply Qd));exact BK47.out⟩,⟨by repeat (first|(with_reducible first|exact HB.out|apply Qc|apply Qa|apply Qb|refine Qg ?_ GE46.out|refine Qg ?_ GE47.out)|exact HB.out)⟩⟩
      ·rw [if_neg c5] at H;exact absurd H (by simp)
     ·rw [if_neg c4] at H;exact absurd H (by simp)
    ·rw [if_neg c3] at H;have c3b0:decide (x8_1<(l0.length:Int))=false:=decide_eq_false c3;clear c3;obtain rfl:=Option.some.inj H;go_wp2
     go_ret
     exact ⟨by first|rfl|(simp [errW_none,errW_some] <;> rfl)|(simp [*,errW_none,errW_some] <;> rfl),by repeat (first|(with_reducible first|exact HB.out|apply Qc|apply Qa|apply Qb|refine Qg ?_ GE46.out|refine Qg ?_ GE47.out)|exact HB.out)⟩

def sl0_ContainsFunc.f (k:Nat) (l0:List Int) (a1_0_0:Int) (a1_1_0:Int):Option (Bool):=(sl1_IndexFunc.f k l0 a1_0_0 a1_1_0).bind fun t101=>(some (decide (t101 ≥ 0)))
set_option maxHeartbeats 8000000 in
set_option maxRecDepth 100000 in
theorem sl0_ContainsFunc.calls (k:Nat) (A0:Option Addr) (c0:Nat) (l0:List Int) (g1_0:Nat) (a1_0_0:Int) (g1_1:Nat) (a1_1_0:Int) (r:Bool) (w:World) (hr0:Kd.C (Kd.int .i64) w A0 l0.length l0) (hc0:l0.length≤c0) (hg1_0:w.heap[g1_0]? = some (.cells #[.int .i64 a1_0_0] 3 (0,0))) (hg1_1:w.heap[g1_1]? = some (.cells #[.int .i64 a1_1_0] 3 (0,0))) (h:sl0_ContainsFunc.f k l0 a1_0_0 a1_1_0=some r) :
    Calls Try.prog 208 #[.slice A0 l0.length c0,.func (.func 209) #[] #[.pointer (some ⟨g1_0,0,none⟩),.pointer (some ⟨g1_1,0,none⟩)]] w fun e w'=>e= .returned (.bool r)∧Below w.heap.size w w':=by
  have HR0:=aM hr0;have HC0:=aM hc0;clear hr0 hc0;have BK46:=aM hg1_0;clear hg1_0;have BK47:=aM hg1_1;clear hg1_1;have HB:=aM (Below.refl w.heap.size w);have H:((sl1_IndexFunc.f k l0 a1_0_0 a1_1_0).bind fun t101=>(some (decide (t101 ≥ 0))))=some r:=h;clear h;replace H:=Option.bind_eq_some_iff.mp H;obtain ⟨t101,A30,H⟩:=H;replace H:(some (decide (t101 ≥ 0)))=some r:=H;have A3:=aM A30;clear A30;obtain rfl:=Option.some.inj H;go_enter Try.func208,Try.ntmps208;go_wp2_with (first|((with_reducible refine Qh (f:=235) rfl ?_);refine goesL_ (some 7) rfl rfl Try.func235 (by kernel_rfl) rfl #[.slice A0 l0.length c0,.func (.func 209) #[] #[.pointer (some ⟨g1_0,0,none⟩),.pointer (some ⟨g1_1,0,none⟩)]] rfl (by (try simp only [aD,aE,aF]);first|done|rfl|(simp only [aG,aH];rfl)) ?_;(with_reducible refine (sl1_IndexFunc.calls k _ _ l0 g1_0 a1_0_0 g1_1 a1_1_0 t101 _ ?side1 ?side2 ?side3 ?side4 A3.out).mono ?_);(case side1=>repeat (first|exact HR0.out|(with_reducible refine Kd.C_alloc ?_ _)|(with_reducible refine Kd.C_drewN ?_ _)|(with_reducible refine Kd.C_drew ?_)));(case side2=>exact HC0.out);(case side3=>exact (by (with_reducible repeat (first|apply Qe|apply Qf|apply Qd));exact BK46.out));(case side4=>exact (by (with_reducible repeat (first|apply Qe|apply Qf|apply Qd));exact BK47.out));rintro e w4 ⟨rfl,hb⟩;refine ⟨_,rfl,?_⟩;have n0_:=aM (blk_below (g:=g1_0) (o:= .cells #[.int .i64 a1_0_0] 3 (0,0)) (by (with_reducible repeat (first|apply Qe|apply Qf|apply Qd));exact BK46.out) hb);have n1_:=aM (blk_below (g:=g1_1) (o:= .cells #[.int .i64 a1_1_0] 3 (0,0)) (by (with_reducible repeat (first|apply Qe|apply Qf|apply Qd));exact BK47.out) hb);have n2_:=aM (Qi (by repeat (first|(with_reducible first|exact HB.out|apply Qc|apply Qa|apply Qb|refine Qg ?_ GE46.out|refine Qg ?_ GE47.out)|exact HB.out)) hb);clear BK46;clear BK47;clear HB;have BK46:=n0_;have BK47:=n1_;have HB:=n2_;clear n0_ n1_ n2_;(try clear hb);(try clear hb2);(try clear hk);(try clear hi)))
  go_ret
  exact ⟨by first|rfl|(simp [errW_none,errW_some] <;> rfl)|(simp [*,errW_none,errW_some] <;> rfl),by repeat (first|(with_reducible first|exact HB.out|apply Qc|apply Qa|apply Qb|refine Qg ?_ GE46.out|refine Qg ?_ GE47.out)|exact HB.out)⟩

def impl_allWithin.f (k:Nat) (l0:List Int) (a1:Int) (a2:Int):Option (Bool):=(sl0_ContainsFunc.f k l0 a1 a2).bind fun t103=>(some (!t103))
set_option maxHeartbeats 8000000 in
set_option maxRecDepth 100000 in
theorem impl_allWithin.calls (k:Nat) (A0:Option Addr) (c0:Nat) (l0:List Int) (a1:Int) (a2:Int) (r:Bool) (w:World) (hr0:Kd.C (Kd.int .i64) w A0 l0.length l0) (hc0:l0.length≤c0) (h:impl_allWithin.f k l0 a1 a2=some r) :
    Calls Try.prog 123 #[.slice A0 l0.length c0,.int .i64 a1,.int .i64 a2] w fun e w'=>e= .returned (.bool r)∧Below w.heap.size w w':=by
  have hmf:∀ (fn:Fn) (first cap:Array Value) (w:World),(Instr.makeFunc fn first cap).run Try.prog w= .ok (.func fn first cap) w:=fun _ _ _ _=>rfl
  have HR0:=aM hr0;have HC0:=aM hc0;clear hr0 hc0;have HB:=aM (Below.refl w.heap.size w);have H:((sl0_ContainsFunc.f k l0 a1 a2).bind fun t103=>(some (!t103)))=some r:=h;clear h;replace H:=Option.bind_eq_some_iff.mp H;obtain ⟨t103,A40,H⟩:=H;replace H:(some (!t103))=some r:=H;have A4:=aM A40;clear A40;obtain rfl:=Option.some.inj H;go_enter Try.func123,Try.ntmps123;go_wp2_with (first|((with_reducible refine gate_dst (N:=4) rfl ?_);refine box_event ?hg (N:=4) ?hd (cs:=#[.int .i64 a1]) (t:=3) ?hr ?_;(case hd=>rfl);(case hg=>rfl);(case hr=>first|(go_simp;done)|(go_simp;rfl));intro gb101 hg w5 hbox hb;have n0_:=aM (Qi (by repeat (first|(with_reducible first|exact HB.out|apply Qc|apply Qa|apply Qb)|exact HB.out)) hb);have n1_:=aM (hbox);have n2_:=aM ((by rw [hg];exact (Qj (by repeat (first|(with_reducible first|exact HB.out|apply Qc|apply Qa|apply Qb)|exact HB.out))):w.heap.size≤gb101));have n3_:=aM ((by rw [hg];exact (Qj (by repeat (first|(with_reducible first|exact HB.out|apply Qc|apply Qa|apply Qb)|exact HB.out))):w.heap.size≤gb101));clear HB;have HB:=n0_;have BK101:=n1_;have GW101:=n2_;have GE101:=n3_;clear n0_ n1_ n2_ n3_;clear hb hbox hg)|((with_reducible refine gate_dst (N:=5) rfl ?_);refine box_event ?hg (N:=5) ?hd (cs:=#[.int .i64 a2]) (t:=3) ?hr ?_;(case hd=>rfl);(case hg=>rfl);(case hr=>first|(go_simp;done)|(go_simp;rfl));intro gb102 hg w6 hbox hb;have n0_:=aM (blk_below (g:=gb101) (o:= .cells #[.int .i64 a1] 3 (0,0)) (by (with_reducible repeat (first|apply Qe|apply Qf|apply Qd));exact BK101.out) hb);have n1_:=aM (Qi (by repeat (first|(with_reducible first|exact HB.out|apply Qc|apply Qa|apply Qb|refine Qg ?_ GE101.out)|exact HB.out)) hb);have n2_:=aM (hbox);have n3_:=aM ((by rw [hg];exact (Qj (by repeat (first|(with_reducible first|exact HB.out|apply Qc|apply Qa|apply Qb|refine Qg ?_ GE101.out)|exact HB.out))):w.heap.size≤gb102));have n4_:=aM ((by rw [hg];exact (Qj (by repeat (first|(with_reducible first|exact HB.out|apply Qc|apply Qa|apply Qb|refine Qg ?_ GE101.out)|exact HB.out))):w.heap.size≤gb102));have n5_:=aM ((by rw [hg];exact Nat.ne_of_lt (blk_lt (g:=gb101) (o:= .cells #[.int .i64 a1] 3 (0,0)) (by (with_reducible repeat (first|apply Qe|apply Qf|apply Qd));exact BK101.out)):gb101≠gb102));have n6_:=aM ((by rw [hg];exact Nat.ne_of_gt (blk_lt (g:=gb101) (o:= .cells #[.int .i64 a1] 3 (0,0)) (by (with_reducible repeat (first|apply Qe|apply Qf|apply Qd));exact BK101.out)):gb102≠gb101));clear BK101;clear HB;have BK101:=n0_;have HB:=n1_;have BK102:=n2_;have GW102:=n3_;have GE102:=n4_;have NB101_102:=n5_;have NB102_101:=n6_;clear n0_ n1_ n2_ n3_ n4_ n5_ n6_;clear hb hbox hg)|((with_reducible refine Qh (f:=208) rfl ?_);refine goesL_ (some 9) rfl rfl Try.func208 (by kernel_rfl) rfl #[.slice A0 l0.length c0,.func (.func 209) #[] #[.pointer (some ⟨gb101,0,none⟩),.pointer (some ⟨gb102,0,none⟩)]] rfl (by (try simp only [aD,aE,aF]);first|done|rfl|(simp only [aG,aH];rfl)) ?_;(with_reducible refine (sl0_ContainsFunc.calls k _ _ l0 gb101 a1 gb102 a2 t103 _ ?side1 ?side2 ?side3 ?side4 A4.out).mono ?_);(case side1=>repeat (first|exact (Kd.C_below HR0.out HB.out)|(with_reducible refine Kd.C_alloc ?_ _)|(with_reducible refine Kd.C_drewN ?_ _)|(with_reducible refine Kd.C_drew ?_)));(case side2=>exact HC0.out);(case side3=>exact (by (with_reducible repeat (first|apply Qe|apply Qf|apply Qd));exact BK101.out));(case side4=>exact (by (with_reducible repeat (first|apply Qe|apply Qf|apply Qd));exact BK102.out));rintro e w7 ⟨rfl,hb⟩;refine ⟨_,rfl,?_⟩;have n0_:=aM (blk_below (g:=gb101) (o:= .cells #[.int .i64 a1] 3 (0,0)) (by (with_reducible repeat (first|apply Qe|apply Qf|apply Qd));exact BK101.out) hb);have n1_:=aM (blk_below (g:=gb102) (o:= .cells #[.int .i64 a2] 3 (0,0)) (by (with_reducible repeat (first|apply Qe|apply Qf|apply Qd));exact BK102.out) hb);have n2_:=aM (Qi (by repeat (first|(with_reducible first|exact HB.out|apply Qc|apply Qa|apply Qb|refine Qg ?_ GE101.out|refine Qg ?_ GE102.out)|exact HB.out)) hb);clear BK101;clear BK102;clear HB;have BK101:=n0_;have BK102:=n1_;have HB:=n2_;clear n0_ n1_ n2_;(try clear hb);(try clear hb2);(try clear hk);(try clear hi)))
  go_ret
  exact ⟨by first|rfl|(simp [errW_none,errW_some] <;> rfl)|(simp [*,errW_none,errW_some] <;> rfl),by repeat (first|(with_reducible first|exact HB.out|apply Qc|apply Qa|apply Qb|refine Qg ?_ GE101.out|refine Qg ?_ GE102.out)|exact HB.out)⟩

def impl_isFlow.f (k:Nat) (l0:List Int):Option (Bool):=(impl_within.f (l0.length:Int) 1 8).bind fun t101=>(if t101=true then ((impl_allWithin.f k l0 1 30).bind fun t102=>(some t102)) else (some false))
set_option maxHeartbeats 8000000 in
set_option maxRecDepth 100000 in
theorem impl_isFlow.calls (k:Nat) (A0:Option Addr) (c0:Nat) (l0:List Int) (r:Bool) (w:World) (hr0:Kd.C (Kd.int .i64) w A0 l0.length l0) (hc0:l0.length≤c0) (h:impl_isFlow.f k l0=some r) :
    Calls Try.prog 112 #[.slice A0 l0.length c0] w fun e w'=>e= .returned (.bool r)∧Below w.heap.size w w':=by
  have HR0:=aM hr0;have HC0:=aM hc0;clear hr0 hc0;have HB:=aM (Below.refl w.heap.size w);have H:((impl_within.f (l0.length:Int) 1 8).bind fun t101=>(if t101=true then ((impl_allWithin.f k l0 1 30).bind fun t102=>(some t102)) else (some false)))=some r:=h;clear h;replace H:=Option.bind_eq_some_iff.mp H;obtain ⟨t101,A20,H⟩:=H;replace H:(if t101=true then ((impl_allWithin.f k l0 1 30).bind fun t102=>(some t102)) else (some false))=some r:=H;have A2:=aM A20;clear A20;by_cases c3:t101=true
  ·subst c3;have H1:((impl_allWithin.f k l0 1 30).bind fun t102=>(some t102))=some r:=by rw [if_pos rfl] at H;exact H
   clear H;have H:=H1;clear H1;replace H:=Option.bind_eq_some_iff.mp H;obtain ⟨t102,A40,H⟩:=H;replace H:(some t102)=some r:=H;have A4:=aM A40;clear A40;obtain rfl:=Option.some.inj H;go_enter Try.func112,Try.ntmps112;go_wp2_with (first|((with_reducible refine Qh (f:=113) rfl ?_);refine goesL_ (some 5) rfl rfl Try.func113 (by kernel_rfl) rfl #[.int .i64 (l0.length:Int),.int .i64 1,.int .i64 8] rfl (by (try simp only [aD,aE,aF]);first|done|rfl|(simp only [aG,aH];rfl)) ?_;(with_reducible refine (impl_within.calls (l0.length:Int) 1 8 true _ A2.out).mono ?_);rintro e w' ⟨rfl,⟨nd,rfl⟩⟩;refine ⟨_,rfl,?_⟩)|(go_at_call 123;(with_reducible refine (impl_allWithin.calls k _ _ l0 1 30 t102 _ ?side1 ?side2 A4.out).mono ?_);(case side1=>repeat (first|exact HR0.out|(with_reducible refine Kd.C_alloc ?_ _)|(with_reducible refine Kd.C_drewN ?_ _)|(with_reducible refine Kd.C_drew ?_)));(case side2=>exact HC0.out);rintro e w5 ⟨rfl,hb⟩;have n0_:=aM (Qi (by repeat (first|(with_reducible first|exact HB.out|apply Qc|apply Qa|apply Qb)|exact HB.out)) hb);clear HB;have HB:=n0_;clear n0_;(try clear hb);(try clear hb2);(try clear hk);(try clear hi)))
   go_ret
   exact ⟨by first|rfl|(simp [errW_none,errW_some] <;> rfl)|(simp [*,errW_none,errW_some] <;> rfl),by repeat (first|(with_reducible first|exact HB.out|apply Qc|apply Qa|apply Qb)|exact HB.out)⟩
  ·replace c3:=Bool.eq_false_iff.mpr c3;subst c3;have H1:(some false)=some r:=by rw [if_neg (show ¬ (false=true) by decide)] at H;exact H
   clear H;have H:=H1;clear H1;obtain rfl:=Option.some.inj H;go_enter Try.func112,Try.ntmps112;go_wp2_with (first|((with_reducible refine Qh (f:=113) rfl ?_);refine goesL_ (some 5) rfl rfl Try.func113 (by kernel_rfl) rfl #[.int .i64 (l0.length:Int),.int .i64 1,.int .i64 8] rfl (by (try simp only [aD,aE,aF]);first|done|rfl|(simp only [aG,aH];rfl)) ?_;(with_reducible refine (impl_within.calls (l0.length:Int) 1 8 false _ A2.out).mono ?_);rintro e w' ⟨rfl,⟨nd,rfl⟩⟩;refine ⟨_,rfl,?_⟩))
   go_ret
   exact ⟨by first|rfl|(simp [errW_none,errW_some] <;> rfl)|(simp [*,errW_none,errW_some] <;> rfl),by repeat (first|(with_reducible first|exact HB.out|apply Qc|apply Qa|apply Qb)|exact HB.out)⟩

def impl_GoodKinds.f (k:Nat) (l0:List Int) (a1:Int):Option (Bool):=(impl_isFlow.f k l0).bind fun t101=>(if t101=true then ((impl_within.f a1 (l0.length:Int) 40).bind fun t102=>(some t102)) else (some false))
set_option maxHeartbeats 8000000 in
set_option maxRecDepth 100000 in
theorem impl_GoodKinds.calls (k:Nat) (A0:Option Addr) (c0:Nat) (l0:List Int) (a1:Int) (r:Bool) (w:World) (hr0:Kd.C (Kd.int .i64) w A0 l0.length l0) (hc0:l0.length≤c0) (h:impl_GoodKinds.f k l0 a1=some r) :
    Calls Try.prog 21 #[.slice A0 l0.length c0,.int .i64 a1] w fun e w'=>e= .returned (.bool r)∧Below w.heap.size w w':=by
  have HR0:=aM hr0;have HC0:=aM hc0;clear hr0 hc0;have HB:=aM (Below.refl w.heap.size w);have H:((impl_isFlow.f k l0).bind fun t101=>(if t101=true then ((impl_within.f a1 (l0.length:Int) 40).bind fun t102=>(some t102)) else (some false)))=some r:=h;clear h;replace H:=Option.bind_eq_some_iff.mp H;obtain ⟨t101,A30,H⟩:=H;replace H:(if t101=true then ((impl_within.f a1 (l0.length:Int) 40).bind fun t102=>(some t102)) else (some false))=some r:=H;have A3:=aM A30;clear A30;by_cases c4:t101=true
  ·subst c4;have H1:((impl_within.f a1 (l0.length:Int) 40).bind fun t102=>(some t102))=some r:=by rw [if_pos rfl] at H;exact H
   clear H;have H:=H1;clear H1;replace H:=Option.bind_eq_some_iff.mp H;obtain ⟨t102,A50,H⟩:=H;replace H:(some t102)=some r:=H;have A5:=aM A50;clear A50;obtain rfl:=Option.some.inj H;go_enter Try.func21,Try.ntmps21;go_wp2_with (first|((with_reducible refine Qh (f:=112) rfl ?_);refine goesL_ (some 6) rfl rfl Try.func112 (by kernel_rfl) rfl #[.slice A0 l0.length c0] rfl (by (try simp only [aD,aE,aF]);first|done|rfl|(simp only [aG,aH];rfl)) ?_;(with_reducible refine (impl_isFlow.calls k _ _ l0 true _ ?side1 ?side2 A3.out).mono ?_);(case side1=>repeat (first|exact HR0.out|(with_reducible refine Kd.C_alloc ?_ _)|(with_reducible refine Kd.C_drewN ?_ _)|(with_reducible refine Kd.C_drew ?_)));(case side2=>exact HC0.out);rintro e w6 ⟨rfl,hb⟩;refine ⟨_,rfl,?_⟩;have n0_:=aM (Qi (by repeat (first|(with_reducible first|exact HB.out|apply Qc|apply Qa|apply Qb)|exact HB.out)) hb);clear HB;have HB:=n0_;clear n0_;(try clear hb);(try clear hb2);(try clear hk);(try clear hi))|(go_at_call 113;(with_reducible refine (impl_within.calls a1 (l0.length:Int) 40 t102 _ A5.out).mono ?_);rintro e w' ⟨rfl,⟨nd,rfl⟩⟩))
   go_ret
   exact ⟨by first|rfl|(simp [errW_none,errW_some] <;> rfl)|(simp [*,errW_none,errW_some] <;> rfl),by repeat (first|(with_reducible first|exact HB.out|apply Qc|apply Qa|apply Qb)|exact HB.out)⟩
  ·replace c4:=Bool.eq_false_iff.mpr c4;subst c4;have H1:(some false)=some r:=by rw [if_neg (show ¬ (false=true) by decide)] at H;exact H
   clear H;have H:=H1;clear H1;obtain rfl:=Option.some.inj H;go_enter Try.func21,Try.ntmps21;go_wp2_with (first|((with_reducible refine Qh (f:=112) rfl ?_);refine goesL_ (some 6) rfl rfl Try.func112 (by kernel_rfl) rfl #[.slice A0 l0.length c0] rfl (by (try simp only [aD,aE,aF]);first|done|rfl|(simp only [aG,aH];rfl)) ?_;(with_reducible refine (impl_isFlow.calls k _ _ l0 false _ ?side1 ?side2 A3.out).mono ?_);(case side1=>repeat (first|exact HR0.out|(with_reducible refine Kd.C_alloc ?_ _)|(with_reducible refine Kd.C_drewN ?_ _)|(with_reducible refine Kd.C_drew ?_)));(case side2=>exact HC0.out);rintro e w7 ⟨rfl,hb⟩;refine ⟨_,rfl,?_⟩;have n0_:=aM (Qi (by repeat (first|(with_reducible first|exact HB.out|apply Qc|apply Qa|apply Qb)|exact HB.out)) hb);clear HB;have HB:=n0_;clear n0_;(try clear hb);(try clear hb2);(try clear hk);(try clear hi)))
   go_ret
   exact ⟨by first|rfl|(simp [errW_none,errW_some] <;> rfl)|(simp [*,errW_none,errW_some] <;> rfl),by repeat (first|(with_reducible first|exact HB.out|apply Qc|apply Qa|apply Qb)|exact HB.out)⟩

def bits_Mul64.f (a0:Int) (a1:Int):Option (Int×Int):=some (IntKind.u64.wrap ((IntKind.u64.wrap ((IntKind.u64.wrap ((a0 / 4294967296) * (a1 / 4294967296)))+((IntKind.u64.wrap ((IntKind.u64.wrap ((a0 / 4294967296) * (Go.bits .and .u64 a1 4294967295)))+((IntKind.u64.wrap ((Go.bits .and .u64 a0 4294967295) * (Go.bits .and .u64 a1 4294967295))) / 4294967296))) / 4294967296)))+((IntKind.u64.wrap ((Go.bits .and .u64 (IntKind.u64.wrap ((IntKind.u64.wrap ((a0 / 4294967296) * (Go.bits .and .u64 a1 4294967295)))+((IntKind.u64.wrap ((Go.bits .and .u64 a0 4294967295) * (Go.bits .and .u64 a1 4294967295))) / 4294967296))) 4294967295)+(IntKind.u64.wrap ((Go.bits .and .u64 a0 4294967295) * (a1 / 4294967296))))) / 4294967296)),IntKind.u64.wrap (a0 * a1))
set_option maxHeartbeats 8000000 in
set_option maxRecDepth 100000 in
theorem bits_Mul64.calls (a0:Int) (a1:Int) (r1:Int) (r2:Int) (w:World) (h:bits_Mul64.f a0 a1=some (r1,r2)) :
    Calls Try.prog 243 #[.int .u64 a0,.int .u64 a1] w fun e w'=>e= .returned (.tuple #[.int .u64 r1,.int .u64 r2])∧Drawn0 w w':=by
  have H:(some (IntKind.u64.wrap ((IntKind.u64.wrap ((IntKind.u64.wrap ((a0 / 4294967296) * (a1 / 4294967296)))+((IntKind.u64.wrap ((IntKind.u64.wrap ((a0 / 4294967296) * (Go.bits .and .u64 a1 4294967295)))+((IntKind.u64.wrap ((Go.bits .and .u64 a0 4294967295) * (Go.bits .and .u64 a1 4294967295))) / 4294967296))) / 4294967296)))+((IntKind.u64.wrap ((Go.bits .and .u64 (IntKind.u64.wrap ((IntKind.u64.wrap ((a0 / 4294967296) * (Go.bits .and .u64 a1 4294967295)))+((IntKind.u64.wrap ((Go.bits .and .u64 a0 4294967295) * (Go.bits .and .u64 a1 4294967295))) / 4294967296))) 4294967295)+(IntKind.u64.wrap ((Go.bits .and .u64 a0 4294967295) * (a1 / 4294967296))))) / 4294967296)),IntKind.u64.wrap (a0 * a1)))=some (r1,r2):=h;clear h;simp only [Option.some.injEq,Prod.mk.injEq] at H;obtain ⟨rfl,rfl⟩:=H;go_enter Try.func243,Try.ntmps243;go_wp2
  go_ret2
  exact ⟨by first|rfl|(simp;done)|(simp [*];done),by repeat (first|exact Drawn0.refl _|apply Drawn0.step)⟩

def bits_Mul.f (a0:Int) (a1:Int):Option (Int×Int):=(bits_Mul64.f a0 a1).bind fun bt101=>(some (bt101.1,bt101.2))
set_option maxHeartbeats 8000000 in
set_option maxRecDepth 100000 in
theorem bits_Mul.calls (a0:Int) (a1:Int) (r1:Int) (r2:Int) (w:World) (h:bits_Mul.f a0 a1=some (r1,r2)) :
    Calls Try.prog 229 #[.int .u64 a0,.int .u64 a1] w fun e w'=>e= .returned (.tuple #[.int .u64 r1,.int .u64 r2])∧Drawn0 w w':=by
  have H:((bits_Mul64.f a0 a1).bind fun bt101=>(some (bt101.1,bt101.2)))=some (r1,r2):=h;clear h;replace H:=Option.bind_eq_some_iff.mp H;obtain ⟨⟨t101,t102⟩,A30,H⟩:=H;replace H:(some (t101,t102))=some (r1,r2):=H;have A3:=aM A30;clear A30;simp only [Option.some.injEq,Prod.mk.injEq] at H;obtain ⟨rfl,rfl⟩:=H;go_enter Try.func229,Try.ntmps229;go_wp2_with (first|((with_reducible refine Qh (f:=243) rfl ?_);refine goesL_ (some 25) rfl rfl Try.func243 (by kernel_rfl) rfl #[.int .u64 a0,.int .u64 a1] rfl (by (try simp only [aD,aE,aF]);first|done|rfl|(simp only [aG,aH];rfl)) ?_;(with_reducible refine (bits_Mul64.calls a0 a1 t101 t102 _ A3.out).mono ?_);rintro e w' ⟨rfl,⟨nd,rfl⟩⟩;refine ⟨_,rfl,?_⟩))
  go_ret2
  exact ⟨by first|rfl|(simp;done)|(simp [*];done),by repeat (first|exact Drawn0.refl _|apply Drawn0.step)⟩

-- NEEDS math/bits.Mul
theorem u64_wrap {x:Int} (h0:0≤x) (h1:x<18446744073709551616):IntKind.u64.wrap x=x:=by
  simp [IntKind.wrap,IntKind.bits,IntKind.signed];omega
theorem and_mask_u64 (c:Int) (h0:0≤c) (h1:c<18446744073709551616):Go.bits .and .u64 c 4294967295=c % 4294967296:=by
  obtain ⟨n,rfl⟩:∃ n:Nat,c=n:=⟨c.toNat,by omega⟩;have e:Go.bits .and .u64 (n:Int) ((4294967295:Nat):Int)=((n &&& 4294967295:Nat):Int):=bits_and_u64_nat n 4294967295 (by omega) (by omega);have e2:n &&& 4294967295=n % 4294967296:=Nat.and_two_pow_sub_one_eq_mod n 32;rw [e2] at e;exact e
theorem mul_one_u64 (c:Int) (h0:0≤c) (h1:c≤35184372088832):bits_Mul.f 1 c=some (0,c):=by
  have e1:Go.bits .and .u64 1 4294967295=1:=by decide
  have e2:Go.bits .and .u64 c 4294967295=c % 4294967296:=and_mask_u64 c h0 (by omega);have e3:Go.bits .and .u64 0 4294967295=0:=by decide
  have hm:0≤c % 4294967296∧c % 4294967296<4294967296:=by omega
  have hd:0≤c / 4294967296∧c / 4294967296<4294967296:=by omega
  unfold bits_Mul.f bits_Mul64.f
  simp only [e1,e2,show (1:Int) / 4294967296=0 by decide,Int.zero_mul,Int.one_mul,u64_wrap (Int.le_refl 0) (by omega),u64_wrap hm.1 (by omega),u64_wrap hd.1 (by omega),show c % 4294967296 / 4294967296=0 by omega,Int.add_zero,Int.zero_add,e3,show (0:Int) / 4294967296=0 by decide,show c / 4294967296 / 4294967296=0 by omega,u64_wrap h0 (by omega),Option.bind_some]
theorem repinfo3:(Try.prog.info? 3).map (fun i=>(i.zero,i.size,i.bytes))=some (some (.int .i64 0),1,8):=by kernel_rfl
def repCells (x:Int) (m n:Nat):List Value:=List.replicate m (.int .i64 x) ++ List.replicate (n - m) (.int .i64 0)
theorem rep_splice (x:Int) (m n k:Nat) (hk:k≤n - m) (hm:m≤n):splice (repCells x m n) m (List.replicate k (.int .i64 x))=repCells x (m+k) n:=by
  unfold splice repCells
  rw [List.take_left' (by simp),List.length_replicate,List.drop_append,List.drop_replicate,List.drop_replicate];simp only [List.length_replicate];rw [←List.append_assoc,List.replicate_append_replicate];have:m - (m+k)=0:=by omega
  rw [this,show n - m - (m+k - m)=n - (m+k) by omega]
  simp

theorem made_block (x:Int) {w:World} {B g n:Nat} {e:TypeId} (ho:w.ownsRow B e 1 (.slice (some ⟨g,0,none⟩) n n) n (madeCells (Value.int .i64 0).cells (n * 1)).toList):w.heap[g]? = some (.cells (repCells x 0 n).toArray e (0,0)):=by
  rcases ho.2 with ⟨h,_⟩|⟨g',cap,cur,h,_,hh,h1,h2,h3,h4⟩
  · cases h
  · injection h with ha hb hc
    injection ha with ha
    injection ha with ha
    subst ha;subst hc;rw [hh];have e1:cur.toList=(madeCells (Value.int .i64 0).cells (n * 1)).toList:=by rw [←h4,List.take_of_length_le (by simp [h3])]
    have e2:(madeCells (Value.int .i64 0).cells (n * 1)).toList=repCells x 0 n:=by
      unfold repCells
      rw [List.replicate_zero,List.nil_append,Nat.sub_zero,List.eq_replicate_iff];refine ⟨by simp [madeCells],fun b hb=>?_⟩;simp only [madeCells,Value.cells,Array.toList_map,List.mem_map] at hb;obtain ⟨a,_,rfl⟩:=hb
      simp [Nat.mod_one]
    have e3:cur=(repCells x 0 n).toArray:=by apply Array.toList_inj.mp;rw [e1,e2]
    rw [e3]

theorem rep_fit (x:Int) (n:Nat):0+(List.replicate (Nat.min 1 n) (Value.int .i64 x)).length≤(repCells x 0 n).length:=by
  simp [repCells];exact Nat.min_le_right _ _
theorem rep_src (x:Int) (ad:Addr) {w:World} (w1:World) (n:Nat) (hb:Below w.heap.size w w1) (hx:w.cell? ad=some (.int .i64 x)) (j:Nat) (v:Value) (hj:(List.replicate (Nat.min 1 n) (Value.int .i64 x))[j]? = some v):w1.cell? (ad.add j)=some v:=by
  rw [List.getElem?_replicate] at hj
  split at hj
  case isTrue h=>
    have:j=0:=by have:Nat.min 1 n≤1:=Nat.min_le_left 1 n;omega
    subst this;obtain rfl:=Option.some.inj hj;have h0:ad.add 0=ad:=by obtain ⟨b,o,sp⟩:=ad;unfold Addr.add;split <;> simp_all
    rw [h0];exact pw_cell_below hb hx
  case isFalse=>cases hj
theorem rep_start (x:Int) (n:Nat) {w':World} {g:Nat} (h:Hid (w'.heap[g]? = some (.cells (splice (repCells x 0 n) 0 (List.replicate (Nat.min 1 n) (.int .i64 x))).toArray 3 (0,0)))):w'.heap[g]? = some (.cells (repCells x (Nat.min 1 n) n).toArray 3 (0,0)):=by
  have:=h.out;rw [rep_splice x 0 n _ (by have:=Nat.min_le_right 1 n;omega) (by omega),Nat.zero_add] at this;exact this

theorem rep_src2 (x:Int) (m n:Nat) {w1:World} {g:Nat} (h:w1.heap[g]? = some (.cells (repCells x m n).toArray 3 (0,0))) (j:Nat) (v:Value) (hj:(List.replicate (Nat.min m (n - m)) (Value.int .i64 x))[j]? = some v):w1.cell? ((⟨g,0,none⟩:Addr).add j)=some v:=by
  rw [List.getElem?_replicate] at hj
  split at hj
  case isTrue hh=>
    obtain rfl:=Option.some.inj hj;rw [add_plain];have h1:Nat.min m (n - m)≤m:=Nat.min_le_left _ _;refine (blk_cell h j).trans ?_;have h2:j<m:=Nat.lt_of_lt_of_le hh h1
    simp [repCells,List.getElem?_append,List.getElem?_replicate,h2]
  case isFalse=>cases hj
theorem rep_fit2 (x:Int) (m n:Nat):m+(List.replicate (Nat.min m (n - m)) (Value.int .i64 x)).length≤(repCells x m n).length:=by
  simp [repCells];exact Nat.min_le_right _ _
theorem rep_next (x:Int) (m n:Nat) (hm:m<n) {w':World} {g:Nat} (h:Hid (w'.heap[g]? = some (.cells (splice (repCells x m n) m (List.replicate (Nat.min m (n - m)) (.int .i64 x))).toArray 3 (0,0)))):w'.heap[g]? = some (.cells (repCells x (m+Nat.min m (n - m)) n).toArray 3 (0,0)):=by
  have:=h.out;rw [rep_splice x m n _ (Nat.min_le_right m (n - m)) (by omega)] at this;exact this
theorem rep_done (x:Int) (n:Nat) (hn:n≤maxLen) {w':World} {g:Nat} (h:w'.heap[g]? = some (.cells (repCells x n n).toArray 3 (0,0))):Kd.R (Kd.int .i64) 3 w' g (fun _=>True) (.slice (some ⟨g,0,none⟩) n n) (List.replicate (n:Int).toNat x):=by
  refine Kd.R_of_own ?_ (fun _ _=>trivial);rw [Int.toNat_natCast];have e:repCells x n n=encs (Value.int .i64) (List.replicate n x):=by simp [repCells,encs]
  rw [List.length_replicate];refine ⟨by simp [encs],.inr ⟨g,n,_,rfl,Nat.le_refl _,h,Nat.le_refl _,hn,by simp [repCells],?_⟩⟩;rw [e];simp [encs]

theorem rep_one (x:Int) (k:Nat) (v:Value) (hv:v ∈ List.replicate k (Value.int .i64 x)):v.oneCell'=true:=by rw [List.eq_of_mem_replicate hv];rfl
theorem gate_stepR {P:Program} {ops:Array Oper} {o:Oper} {a:Act} {w:World} {K:Act→World→Prop} {Q:Exit→Act→World→Prop} {E:Prop} {N:Tmp} (_ho:o.dst=some N) (h:if Region.wanted o (yielded ops a.tmps)=true then Oper.wp P o a w K Q else E):if Region.wanted o (yielded ops a.tmps)=true then Oper.wp P o a w K Q else E:=h

theorem rep_add0 (ad:Addr):ad.add 0=ad:=by obtain ⟨b,o,sp⟩:=ad;unfold Addr.add;split <;> simp_all

theorem rep_idx (m k:Nat) (h:m+k≤35184372088832):IntKind.i64.wrap ((m:Int)+(k:Int))=((m+k:Nat):Int):=by rw [IntKind.wrap_i64];omega

def slices_Repeat_int_int.f (l0:List Int) (a1:Int):Option (List Int):=match l0 with
  |[x]=>if 0≤a1∧a1≤35184372088832 then some (List.replicate a1.toNat x) else none
  |_=>none
set_option maxHeartbeats 20000000 in
set_option maxRecDepth 100000 in
theorem slices_Repeat_int_int.calls (A0:Option Addr) (c0:Nat) (l0:List Int) (a1:Int) (r:List Int) (w:World) (hr0:Kd.C (Kd.int .i64) w A0 l0.length l0) (hc0:l0.length≤c0) (h:slices_Repeat_int_int.f l0 a1=some r) :
    Calls Try.prog 199 #[.slice A0 l0.length c0,.int .i64 a1] w fun e w'=>∃ v0_:Value,e= .returned (v0_)∧Kd.R (Kd.int .i64) 3 w' w.heap.size (fun _=>True) v0_ r∧Below w.heap.size w w':=by
  match l0,h with
  |[x],h=>
    simp only [slices_Repeat_int_int.f] at h
    split at h
    case isFalse=>exact absurd h (by simp)
    case isTrue hc=>
    obtain ⟨h0,h1⟩:=hc;obtain rfl:=Option.some.inj h;clear h;have HM:=aM (mul_one_u64 a1 h0 h1);obtain ⟨ad,rfl,hx0⟩:=Kd.at_int hr0 0 (by omega) (by simp);have hx1:w.cell? ad=some (.int .i64 x):=by have h_:=hx0;rw [show ((0:Int).toNat)=0 from rfl,rep_add0] at h_;exact h_.trans rfl
    have HX:=aM hx1;clear hx0 hx1;have HC:=aM hc0;have HR:=aM hr0;clear hr0 hc0;obtain ⟨n,rfl⟩:∃ n:Nat,a1=(n:Int):=⟨a1.toNat,by omega⟩;go_enter Try.func199,Try.ntmps199
    obtain ⟨i3,hi3,hz3,hs3,hb3⟩:∃ i,Try.prog.info? 3=some i∧i.zero=some (.int .i64 0)∧i.size=1∧i.bytes=8:=by
      have:=repinfo3
      cases hh:Try.prog.info? 3 with
      |none=>rw [hh] at this;simp at this
      |some i=>rw [hh] at this;simp only [Option.map_some,Option.some.injEq,Prod.mk.injEq] at this;exact ⟨i,rfl,this.1,this.2.1,this.2.2⟩
    have HI3:=aM (And.intro hi3 (And.intro hz3 (And.intro hs3 hb3)));clear hi3 hz3 hs3 hb3;have HS:=aM (show (Try.prog.info? 3).map (·.size)=some 1 by rw [HI3.out.1];simp [HI3.out.2.2.1])
    go_wp2_with (first|(go_at_call 229;(refine (bits_Mul.calls 1 (n:Int) 0 (n:Int) _ HM.out).mono ?_);rintro e w' ⟨rfl,⟨nd,rfl⟩⟩)|((with_reducible refine gate_dst (N:=30) rfl ?_);go_loud (refine wpList_make_full _ rfl (.tmp 29) (.tmp 29) 23 rfl w.heap.size 3 i3 (.int .i64 0) 1 Try.underlying23 HI3.out.1 HI3.out.2.1 HI3.out.2.2.1 .i64 .i64 (n:Int) (n:Int) n rfl rfl rfl rfl (by rw [HI3.out.2.2.2];omega) (by unfold maxLen;omega) (Nat.le_refl _) ?_);intro w1 ho hg;have HO:=aM (made_block x ho);have HB:=aM (Below.grown (show Below w.heap.size w (w.drewN nd) from Qa (Below.refl _ _) nd) hg (Nat.le_refl _) (fun _ h_=>by cases h_));clear ho hg)|
      ((with_reducible refine gate_dst (N:=33) rfl ?_);go_loud (refine wpList_copy_splice rfl (.tmp 31) (.tmp 32) 23 23 rfl 3 Try.underlying23 HS.out _ _ n n 1 c0 rfl rfl w.heap.size 0 _ 3 HO.out (List.replicate (Nat.min 1 n) (.int .i64 x)) (by simp) ?hpos ?hfit ?h1 w.heap.size w HB.out (Nat.le_refl _) ?_);(case hpos=>exact fun hp=>⟨rfl,ad,rfl,fun j v hj=>rep_src x ad w1 n HB.out HX.out j v hj⟩);(case hfit=>exact rep_fit x n);(case h1=>exact fun v hv=>by rw [List.eq_of_mem_replicate hv];rfl);intro w2 ho2 hb2;have HO2:=aM (rep_start x n ho2);clear HO HB;have HO:=HO2;have HB:=aM hb2;clear HO2 ho2 hb2))
    have HS2:=HS.out;go_loopg [8] n (fun kq v8 w'=>∃ m:Nat,v8= .int .i64 (m:Int)∧Aside0 (m≤n∧(n=0∨1≤m)∧n - m≤kq)∧Aside0 (w'.heap[w.heap.size]? = some (.cells (repCells x m n).toArray 3 (0,0)))∧Aside0 (Below w.heap.size w w'))
    case atStart=>
      have hmn:Nat.min 1 n≤n:=Nat.min_le_right 1 n
      have hm1:n=0∨1≤Nat.min 1 n:=by
        rcases Nat.eq_zero_or_pos n with h|h
        · exact .inl h
        · exact .inr (Nat.le_min.mpr ⟨Nat.le_refl _,h⟩)
      exact ⟨Nat.min 1 n,rfl,⟨hmn,hm1,Nat.sub_le _ _⟩,HO,HB⟩
    case round=>
      obtain ⟨m,rfl,HXX,HO,HB⟩:=hrel;have HN:=aM h1;by_cases hm:m<n
      · have hm1:decide (m<n)=true:=decide_eq_true hm
        have hm2:decide ((m:Int)<(n:Int))=true:=decide_eq_true (by omega);have hm3:(m≤n)=True:=eq_true (Nat.le_of_lt hm);have hm4:(n=m)=False:=eq_false (by omega);have HM3:=aM hm;clear hm;go_wp2;clear HX HC HR HS HI3 h0 h1 HM
        go_region_law ((with_reducible refine gate_stepR (N:=45) rfl ?_);refine step_copy_splice rfl (.tmp 41) (.tmp 44) 23 23 rfl 3 Try.underlying23 HS2 _ _ (n - m) (n - m) m n rfl rfl w.heap.size m (repCells x m n) 3 HO.out (List.replicate (Nat.min m (n - m)) (.int .i64 x)) (List.length_replicate ..) (fun hp=>⟨rfl,_,rfl,fun j v hj=>rep_src2 x m n HO.out j v hj⟩) (rep_fit2 x m n) (fun v hv=>rep_one x _ v hv) w.heap.size w (below_drew HB.out) (Nat.le_refl _) ?_;intro w4 ho4 hb4)
        have HO4:=aM (rep_next x m n HM3.out ho4);have HB4:=aM hb4;clear ho4 hb4;go_wp2;have hk:Nat.min m (n - m)≤n - m:=Nat.min_le_right _ _;have hk1:1≤Nat.min m (n - m):=Nat.le_min.mpr ⟨by have:=HXX.out;have:=HM3.out;omega,by have:=HM3.out;omega⟩
        have h6:wrap64 ((m:Int)+(Nat.min m (n - m):Nat))=((m+Nat.min m (n - m):Nat):Int):=by
          have:=HM3.out;have:=HN.out
          unfold wrap64;omega
        go_roundg (n - (m+Nat.min m (n - m)))
        case measure=>have:=HXX.out;have:=HM3.out;omega
        case rel=>exact ⟨m+Nat.min m (n - m),congrArg (Value.int .i64) (rep_idx m (Nat.min m (n - m)) (by have:=HN.out;have:=HM3.out;omega)),⟨by have:=HM3.out;omega,by omega,Nat.le_refl _⟩,HO4,HB4⟩
      · have hm1:decide (m<n)=false:=decide_eq_false hm
        have hm2:decide ((m:Int)<(n:Int))=false:=decide_eq_false (by omega);go_wp2
        go_ret
        obtain rfl:m=n:=by have:=HXX.out.1;omega
        exact ⟨_,by first|rfl|(simp;done),rep_done x m (by have:=HN.out;unfold maxLen;omega) HO.out,HB.out⟩

def impl_compareFracs.f (a0_0:Int) (a0_1:Int) (a1_0:Int) (a1_1:Int):Option (Int):=if (wrap64 ((wrap64 (a0_0 * a1_1)) - (wrap64 (a1_0 * a0_1))))<0 then (some (-1)) else (if (wrap64 ((wrap64 (a0_0 * a1_1)) - (wrap64 (a1_0 * a0_1)))) > 0 then (some 1) else (some 0))
set_option maxHeartbeats 8000000 in
set_option maxRecDepth 100000 in
theorem impl_compareFracs.calls (a0_0:Int) (a0_1:Int) (a1_0:Int) (a1_1:Int) (r:Int) (w:World) (h:impl_compareFracs.f a0_0 a0_1 a1_0 a1_1=some r) :
    Calls Try.prog 117 #[.agg #[.int .i64 a0_0,.int .i64 a0_1],.agg #[.int .i64 a1_0,.int .i64 a1_1]] w fun e w'=>e= .returned (.int .i64 r)∧Below w.heap.size w w':=by
  have hu35:=Try.underlying35;have HB:=aM (Below.refl w.heap.size w);have H:(if (wrap64 ((wrap64 (a0_0 * a1_1)) - (wrap64 (a1_0 * a0_1))))<0 then (some (-1)) else (if (wrap64 ((wrap64 (a0_0 * a1_1)) - (wrap64 (a1_0 * a0_1)))) > 0 then (some 1) else (some 0)))=some r:=h;clear h;by_cases c3:(wrap64 ((wrap64 (a0_0 * a1_1)) - (wrap64 (a1_0 * a0_1))))<0
  ·rw [if_pos c3] at H;have c3b0:decide ((wrap64 ((wrap64 (a0_0 * a1_1)) - (wrap64 (a1_0 * a0_1))))<0)=true:=decide_eq_true c3;clear c3;obtain rfl:=Option.some.inj H;go_enter Try.func117,Try.ntmps117;go_wp2_with (first|((with_reducible refine gate_dst (N:=2) rfl ?_);refine box_event ?hg (N:=2) ?hd (cs:=#[.int .i64 a0_0,.int .i64 a0_1]) (t:=35) ?hr ?_;(case hd=>rfl);(case hg=>rfl);(case hr=>first|(go_simp;done)|(go_simp;rfl));intro gb101 hg w4 hbox hb;have n0_:=aM (Qi (by repeat (first|(with_reducible first|exact HB.out|apply Qc|apply Qa|apply Qb)|exact HB.out)) hb);have n1_:=aM (hbox);have n2_:=aM ((by rw [hg];exact (Qj (by repeat (first|(with_reducible first|exact HB.out|apply Qc|apply Qa|apply Qb)|exact HB.out))):w.heap.size≤gb101));have n3_:=aM ((by rw [hg];exact (Qj (by repeat (first|(with_reducible first|exact HB.out|apply Qc|apply Qa|apply Qb)|exact HB.out))):w.heap.size≤gb101));clear HB;have HB:=n0_;have BK101:=n1_;have GW101:=n2_;have GE101:=n3_;clear n0_ n1_ n2_ n3_;clear hb hbox hg)|((with_reducible refine gate_dst (N:=3) rfl ?_);refine box_event ?hg (N:=3) ?hd (cs:=#[.int .i64 a1_0,.int .i64 a1_1]) (t:=35) ?hr ?_;(case hd=>rfl);(case hg=>rfl);(case hr=>first|(go_simp;done)|(go_simp;rfl));intro gb102 hg w5 hbox hb;have n0_:=aM (blk_below (g:=gb101) (o:= .cells #[.int .i64 a0_0,.int .i64 a0_1] 35 (0,0)) (by (with_reducible repeat (first|apply Qe|apply Qf|apply Qd));exact BK101.out) hb);have n1_:=aM (Qi (by repeat (first|(with_reducible first|exact HB.out|apply Qc|apply Qa|apply Qb|refine Qg ?_ GE101.out)|exact HB.out)) hb);have n2_:=aM (hbox);have n3_:=aM ((by rw [hg];exact (Qj (by repeat (first|(with_reducible first|exact HB.out|apply Qc|apply Qa|apply Qb|refine Qg ?_ GE101.out)|exact HB.out))):w.heap.size≤gb102));have n4_:=aM ((by rw [hg];exact (Qj (by repeat (first|(with_reducible first|exact HB.out|apply Qc|apply Qa|apply Qb|refine Qg ?_ GE101.out)|exact HB.out))):w.heap.size≤gb102));have n5_:=aM ((by rw [hg];exact Nat.ne_of_lt (blk_lt (g:=gb101) (o:= .cells #[.int .i64 a0_0,.int .i64 a0_1] 35 (0,0)) (by (with_reducible repeat (first|apply Qe|apply Qf|apply Qd));exact BK101.out)):gb101≠gb102));have n6_:=aM ((by rw [hg];exact Nat.ne_of_gt (blk_lt (g:=gb101) (o:= .cells #[.int .i64 a0_0,.int .i64 a0_1] 35 (0,0)) (by (with_reducible repeat (first|apply Qe|apply Qf|apply Qd));exact BK101.out)):gb102≠gb101));clear BK101;clear HB;have BK101:=n0_;have HB:=n1_;have BK102:=n2_;have GW102:=n3_;have GE102:=n4_;have NB101_102:=n5_;have NB102_101:=n6_;clear n0_ n1_ n2_ n3_ n4_ n5_ n6_;clear hb hbox hg;have hnb6:=NB101_102.out;have hnc6:=NB102_101.out;have hcz7_0:w5.cell? ⟨gb101,0,none⟩=some (.int .i64 a0_0):=(blk_cell BK101.out 0).trans rfl;have hcz7_1:w5.cell? ⟨gb101,1,none⟩=some (.int .i64 a0_1):=(blk_cell BK101.out 1).trans rfl;have hfz7_0:=Qk BK101.out 0;have hfz7_1:=Qk BK101.out 1;have hcz8_0:w5.cell? ⟨gb102,0,none⟩=some (.int .i64 a1_0):=(blk_cell BK102.out 0).trans rfl;have hcz8_1:w5.cell? ⟨gb102,1,none⟩=some (.int .i64 a1_1):=(blk_cell BK102.out 1).trans rfl;have hfz8_0:=Qk BK102.out 0;have hfz8_1:=Qk BK102.out 1))
   go_ret
   exact ⟨by first|rfl|(simp [errW_none,errW_some] <;> rfl)|(simp [*,errW_none,errW_some] <;> rfl),by repeat (first|(with_reducible first|exact HB.out|apply Qc|apply Qa|apply Qb|refine Qg ?_ GE101.out|refine Qg ?_ GE102.out)|exact HB.out)⟩
  ·rw [if_neg c3] at H;have c3b0:decide ((wrap64 ((wrap64 (a0_0 * a1_1)) - (wrap64 (a1_0 * a0_1))))<0)=false:=decide_eq_false c3;clear c3;by_cases c9:(wrap64 ((wrap64 (a0_0 * a1_1)) - (wrap64 (a1_0 * a0_1)))) > 0
   ·rw [if_pos c9] at H;have c9b0:decide (0<(wrap64 ((wrap64 (a0_0 * a1_1)) - (wrap64 (a1_0 * a0_1)))))=true:=decide_eq_true c9;clear c9;obtain rfl:=Option.some.inj H;go_enter Try.func117,Try.ntmps117;go_wp2_with (first|((with_reducible refine gate_dst (N:=2) rfl ?_);refine box_event ?hg (N:=2) ?hd (cs:=#[.int .i64 a0_0,.int .i64 a0_1]) (t:=35) ?hr ?_;(case hd=>rfl);(case hg=>rfl);(case hr=>first|(go_simp;done)|(go_simp;rfl));intro gb101 hg w10 hbox hb;have n0_:=aM (Qi (by repeat (first|(with_reducible first|exact HB.out|apply Qc|apply Qa|apply Qb)|exact HB.out)) hb);have n1_:=aM (hbox);have n2_:=aM ((by rw [hg];exact (Qj (by repeat (first|(with_reducible first|exact HB.out|apply Qc|apply Qa|apply Qb)|exact HB.out))):w.heap.size≤gb101));have n3_:=aM ((by rw [hg];exact (Qj (by repeat (first|(with_reducible first|exact HB.out|apply Qc|apply Qa|apply Qb)|exact HB.out))):w.heap.size≤gb101));clear HB;have HB:=n0_;have BK101:=n1_;have GW101:=n2_;have GE101:=n3_;clear n0_ n1_ n2_ n3_;clear hb hbox hg)|((with_reducible refine gate_dst (N:=3) rfl ?_);refine box_event ?hg (N:=3) ?hd (cs:=#[.int .i64 a1_0,.int .i64 a1_1]) (t:=35) ?hr ?_;(case hd=>rfl);(case hg=>rfl);(case hr=>first|(go_simp;done)|(go_simp;rfl));intro gb102 hg w11 hbox hb;have n0_:=aM (blk_below (g:=gb101) (o:= .cells #[.int .i64 a0_0,.int .i64 a0_1] 35 (0,0)) (by (with_reducible repeat (first|apply Qe|apply Qf|apply Qd));exact BK101.out) hb);have n1_:=aM (Qi (by repeat (first|(with_reducible first|exact HB.out|apply Qc|apply Qa|apply Qb|refine Qg ?_ GE101.out)|exact HB.out)) hb);have n2_:=aM (hbox);have n3_:=aM ((by rw [hg];exact (Qj (by repeat (first|(with_reducible first|exact HB.out|apply Qc|apply Qa|apply Qb|refine Qg ?_ GE101.out)|exact HB.out))):w.heap.size≤gb102));have n4_:=aM ((by rw [hg];exact (Qj (by repeat (first|(with_reducible first|exact HB.out|apply Qc|apply Qa|apply Qb|refine Qg ?_ GE101.out)|exact HB.out))):w.heap.size≤gb102));have n5_:=aM ((by rw [hg];exact Nat.ne_of_lt (blk_lt (g:=gb101) (o:= .cells #[.int .i64 a0_0,.int .i64 a0_1] 35 (0,0)) (by (with_reducible repeat (first|apply Qe|apply Qf|apply Qd));exact BK101.out)):gb101≠gb102));have n6_:=aM ((by rw [hg];exact Nat.ne_of_gt (blk_lt (g:=gb101) (o:= .cells #[.int .i64 a0_0,.int .i64 a0_1] 35 (0,0)) (by (with_reducible repeat (first|apply Qe|apply Qf|apply Qd));exact BK101.out)):gb102≠gb101));clear BK101;clear HB;have BK101:=n0_;have HB:=n1_;have BK102:=n2_;have GW102:=n3_;have GE102:=n4_;have NB101_102:=n5_;have NB102_101:=n6_;clear n0_ n1_ n2_ n3_ n4_ n5_ n6_;clear hb hbox hg;have hnb12:=NB101_102.out;have hnc12:=NB102_101.out;have hcz13_0:w11.cell? ⟨gb101,0,none⟩=some (.int .i64 a0_0):=(blk_cell BK101.out 0).trans rfl;have hcz13_1:w11.cell? ⟨gb101,1,none⟩=some (.int .i64 a0_1):=(blk_cell BK101.out 1).trans rfl;have hfz13_0:=Qk BK101.out 0;have hfz13_1:=Qk BK101.out 1;have hcz14_0:w11.cell? ⟨gb102,0,none⟩=some (.int .i64 a1_0):=(blk_cell BK102.out 0).trans rfl;have hcz14_1:w11.cell? ⟨gb102,1,none⟩=some (.int .i64 a1_1):=(blk_cell BK102.out 1).trans rfl;have hfz14_0:=Qk BK102.out 0;have hfz14_1:=Qk BK102.out 1))
    go_ret
    exact ⟨by first|rfl|(simp [errW_none,errW_some] <;> rfl)|(simp [*,errW_none,errW_some] <;> rfl),by repeat (first|(with_reducible first|exact HB.out|apply Qc|apply Qa|apply Qb|refine Qg ?_ GE101.out|refine Qg ?_ GE102.out)|exact HB.out)⟩
   ·rw [if_neg c9] at H;have c9b0:decide (0<(wrap64 ((wrap64 (a0_0 * a1_1)) - (wrap64 (a1_0 * a0_1)))))=false:=decide_eq_false c9;clear c9;obtain rfl:=Option.some.inj H;go_enter Try.func117,Try.ntmps117;go_wp2_with (first|((with_reducible refine gate_dst (N:=2) rfl ?_);refine box_event ?hg (N:=2) ?hd (cs:=#[.int .i64 a0_0,.int .i64 a0_1]) (t:=35) ?hr ?_;(case hd=>rfl);(case hg=>rfl);(case hr=>first|(go_simp;done)|(go_simp;rfl));intro gb101 hg w15 hbox hb;have n0_:=aM (Qi (by repeat (first|(with_reducible first|exact HB.out|apply Qc|apply Qa|apply Qb)|exact HB.out)) hb);have n1_:=aM (hbox);have n2_:=aM ((by rw [hg];exact (Qj (by repeat (first|(with_reducible first|exact HB.out|apply Qc|apply Qa|apply Qb)|exact HB.out))):w.heap.size≤gb101));have n3_:=aM ((by rw [hg];exact (Qj (by repeat (first|(with_reducible first|exact HB.out|apply Qc|apply Qa|apply Qb)|exact HB.out))):w.heap.size≤gb101));clear HB;have HB:=n0_;have BK101:=n1_;have GW101:=n2_;have GE101:=n3_;clear n0_ n1_ n2_ n3_;clear hb hbox hg)|((with_reducible refine gate_dst (N:=3) rfl ?_);refine box_event ?hg (N:=3) ?hd (cs:=#[.int .i64 a1_0,.int .i64 a1_1]) (t:=35) ?hr ?_;(case hd=>rfl);(case hg=>rfl);(case hr=>first|(go_simp;done)|(go_simp;rfl));intro gb102 hg w16 hbox hb;have n0_:=aM (blk_below (g:=gb101) (o:= .cells #[.int .i64 a0_0,.int .i64 a0_1] 35 (0,0)) (by (with_reducible repeat (first|apply Qe|apply Qf|apply Qd));exact BK101.out) hb);have n1_:=aM (Qi (by repeat (first|(with_reducible first|exact HB.out|apply Qc|apply Qa|apply Qb|refine Qg ?_ GE101.out)|exact HB.out)) hb);have n2_:=aM (hbox);have n3_:=aM ((by rw [hg];exact (Qj (by repeat (first|(with_reducible first|exact HB.out|apply Qc|apply Qa|apply Qb|refine Qg ?_ GE101.out)|exact HB.out))):w.heap.size≤gb102));have n4_:=aM ((by rw [hg];exact (Qj (by repeat (first|(with_reducible first|exact HB.out|apply Qc|apply Qa|apply Qb|refine Qg ?_ GE101.out)|exact HB.out))):w.heap.size≤gb102));have n5_:=aM ((by rw [hg];exact Nat.ne_of_lt (blk_lt (g:=gb101) (o:= .cells #[.int .i64 a0_0,.int .i64 a0_1] 35 (0,0)) (by (with_reducible repeat (first|apply Qe|apply Qf|apply Qd));exact BK101.out)):gb101≠gb102));have n6_:=aM ((by rw [hg];exact Nat.ne_of_gt (blk_lt (g:=gb101) (o:= .cells #[.int .i64 a0_0,.int .i64 a0_1] 35 (0,0)) (by (with_reducible repeat (first|apply Qe|apply Qf|apply Qd));exact BK101.out)):gb102≠gb101));clear BK101;clear HB;have BK101:=n0_;have HB:=n1_;have BK102:=n2_;have GW102:=n3_;have GE102:=n4_;have NB101_102:=n5_;have NB102_101:=n6_;clear n0_ n1_ n2_ n3_ n4_ n5_ n6_;clear hb hbox hg;have hnb17:=NB101_102.out;have hnc17:=NB102_101.out;have hcz18_0:w16.cell? ⟨gb101,0,none⟩=some (.int .i64 a0_0):=(blk_cell BK101.out 0).trans rfl;have hcz18_1:w16.cell? ⟨gb101,1,none⟩=some (.int .i64 a0_1):=(blk_cell BK101.out 1).trans rfl;have hfz18_0:=Qk BK101.out 0;have hfz18_1:=Qk BK101.out 1;have hcz19_0:w16.cell? ⟨gb102,0,none⟩=some (.int .i64 a1_0):=(blk_cell BK102.out 0).trans rfl;have hcz19_1:w16.cell? ⟨gb102,1,none⟩=some (.int .i64 a1_1):=(blk_cell BK102.out 1).trans rfl;have hfz19_0:=Qk BK102.out 0;have hfz19_1:=Qk BK102.out 1))
    go_ret
    exact ⟨by first|rfl|(simp [errW_none,errW_some] <;> rfl)|(simp [*,errW_none,errW_some] <;> rfl),by repeat (first|(with_reducible first|exact HB.out|apply Qc|apply Qa|apply Qb|refine Qg ?_ GE101.out|refine Qg ?_ GE102.out)|exact HB.out)⟩

def impl_divisor.l0:Nat→Int→Int→Option (Int)
  |0,_,_=>none
  |k+1,x0,x1=>if x1=0 then (some (mx x0 (wrap64 (-x0)))) else (impl_divisor.l0 k x1 (Int.tmod x0 x1))
def impl_divisor.f (k:Nat) (a0:Int) (a1:Int):Option (Int):=impl_divisor.l0 k a0 a1
set_option maxHeartbeats 8000000 in
set_option maxRecDepth 100000 in
theorem impl_divisor.calls (k:Nat) (a0:Int) (a1:Int) (r:Int) (w:World) (h:impl_divisor.f k a0 a1=some r) :
    Calls Try.prog 216 #[.int .i64 a0,.int .i64 a1] w fun e w'=>e= .returned (.int .i64 r)∧Below w.heap.size w w':=by
  have HB:=aM (Below.refl w.heap.size w);have H:(impl_divisor.l0 k a0 a1)=some r:=h;clear h;have H':=aM H;clear H;go_enter Try.func216,Try.ntmps216;go_wp2
  repeat (go_quiet (fail);try go_wp2)
  go_loopg [0,1] k (fun kq v0 v1 w'=>∃ (x0_1:Int) (x1_1:Int),v0= .int .i64 x0_1∧v1= .int .i64 x1_1∧Aside0 (impl_divisor.l0 kq x0_1 x1_1=some r)∧Aside0 (kq≤k)∧Aside0 (Below w.heap.size w w'))
  case atStart=>exact ⟨(a0),(a1),(by first|rfl|(simp;done)|(simp [*];done)),(by first|rfl|(simp;done)|(simp [*];done)),H',⟨Nat.le_refl _⟩,⟨by repeat (first|(with_reducible first|exact HB.out|apply Qc|apply Qa|apply Qb)|exact HB.out)⟩⟩
  case round=>
   clear H';(try clear c2);(try clear p2);obtain ⟨x0_1,x1_1,rfl,rfl,HA,HK1,HB⟩:=hrel
   cases gk with
   |zero=>exact absurd HA.out (by simp [impl_divisor.l0])
   |succ k1=>
    have H:=HA.out;clear HA;simp only [impl_divisor.l0] at H;by_cases c3:x1_1=0
    ·rw [if_pos c3] at H;have c3b0:(x1_1 == 0)=true:=beq_iff_eq.mpr c3;have c3b1:(x1_1 != 0)=false:=bne_eq_false_iff_eq.mpr c3;clear c3;obtain ⟨ji4,hji4⟩:∃ j_:Int,(mx x0_1 (wrap64 (-x0_1)))=j_:=⟨_,rfl⟩;replace H:(some ji4)=some r:=by first|(rw [hji4] at H;exact H)|(simp only [hji4] at H ⊢;exact H)
     have hji4_:(if x0_1<(wrap64 (-x0_1)) then (wrap64 (-x0_1)) else x0_1)=ji4:=hji4;obtain rfl:=Option.some.inj H;go_wp2
     repeat (go_quiet (fail);try go_wp2)
     go_ret
     exact ⟨by first|rfl|(simp [errW_none,errW_some] <;> rfl)|(simp only [←hji4];first|rfl|(simp [errW_none,errW_some] <;> rfl))|(simp [*,errW_none,errW_some] <;> rfl),by repeat (first|(with_reducible first|exact HB.out|apply Qc|apply Qa|apply Qb)|exact HB.out)⟩
    ·rw [if_neg c3] at H;have c3b0:(x1_1 == 0)=false:=beq_eq_false_iff_ne.mpr c3;have c3b1:(x1_1 != 0)=true:=bne_iff_ne.mpr c3;have H':=aM H;clear H;go_wp2
     repeat (go_quiet (fail);try go_wp2)
     go_roundg k1
     case measure=>have:=HK1.out;omega
     case rel=>exact ⟨(x1_1),(Int.tmod x0_1 x1_1),(by first|rfl|(simp;done)|(simp [*];done)),(by first|rfl|(simp;done)|(simp [*];done)),H',⟨by have:=HK1.out;omega⟩,⟨by repeat (first|(with_reducible first|exact HB.out|apply Qc|apply Qa|apply Qb)|exact HB.out)⟩⟩

def impl_GoodFrac.f (k:Nat) (a0_0:Int) (a0_1:Int):Option (Bool):=(impl_within.f a0_0 (-1000000000) 1000000000).bind fun t102=>(if t102=true then ((impl_within.f a0_1 1 1000000000).bind fun t103=>(if t103=true then ((impl_divisor.f k a0_0 a0_1).bind fun t104=>(some (t104 == 1))) else (some false))) else (some false))
set_option maxHeartbeats 8000000 in
set_option maxRecDepth 100000 in
theorem impl_GoodFrac.calls (k:Nat) (a0_0:Int) (a0_1:Int) (r:Bool) (w:World) (h:impl_GoodFrac.f k a0_0 a0_1=some r) :
    Calls Try.prog 206 #[.agg #[.int .i64 a0_0,.int .i64 a0_1]] w fun e w'=>e= .returned (.bool r)∧Below w.heap.size w w':=by
  have hu35:=Try.underlying35;have HB:=aM (Below.refl w.heap.size w);have H:((impl_within.f a0_0 (-1000000000) 1000000000).bind fun t102=>(if t102=true then ((impl_within.f a0_1 1 1000000000).bind fun t103=>(if t103=true then ((impl_divisor.f k a0_0 a0_1).bind fun t104=>(some (t104 == 1))) else (some false))) else (some false)))=some r:=h;clear h;replace H:=Option.bind_eq_some_iff.mp H;obtain ⟨t102,A20,H⟩:=H;replace H:(if t102=true then ((impl_within.f a0_1 1 1000000000).bind fun t103=>(if t103=true then ((impl_divisor.f k a0_0 a0_1).bind fun t104=>(some (t104 == 1))) else (some false))) else (some false))=some r:=H;have A2:=aM A20;clear A20;by_cases c3:t102=true
  ·subst c3;have H1:((impl_within.f a0_1 1 1000000000).bind fun t103=>(if t103=true then ((impl_divisor.f k a0_0 a0_1).bind fun t104=>(some (t104 == 1))) else (some false)))=some r:=by rw [if_pos rfl] at H;exact H
   clear H;have H:=H1;clear H1;replace H:=Option.bind_eq_some_iff.mp H;obtain ⟨t103,A40,H⟩:=H;replace H:(if t103=true then ((impl_divisor.f k a0_0 a0_1).bind fun t104=>(some (t104 == 1))) else (some false))=some r:=H;have A4:=aM A40;clear A40;by_cases c5:t103=true
   ·subst c5;have H1:((impl_divisor.f k a0_0 a0_1).bind fun t104=>(some (t104 == 1)))=some r:=by rw [if_pos rfl] at H;exact H
    clear H;have H:=H1;clear H1;replace H:=Option.bind_eq_some_iff.mp H;obtain ⟨t104,A60,H⟩:=H;replace H:(some (t104 == 1))=some r:=H;have A6:=aM A60;clear A60;obtain rfl:=Option.some.inj H;go_enter Try.func206,Try.ntmps206;go_wp2_with (first|((with_reducible refine gate_dst (N:=1) rfl ?_);refine box_event ?hg (N:=1) ?hd (cs:=#[.int .i64 a0_0,.int .i64 a0_1]) (t:=35) ?hr ?_;(case hd=>rfl);(case hg=>rfl);(case hr=>first|(go_simp;done)|(go_simp;rfl));intro gb101 hg w7 hbox hb;have n0_:=aM (Qi (by repeat (first|(with_reducible first|exact HB.out|apply Qc|apply Qa|apply Qb)|exact HB.out)) hb);have n1_:=aM (hbox);have n2_:=aM ((by rw [hg];exact (Qj (by repeat (first|(with_reducible first|exact HB.out|apply Qc|apply Qa|apply Qb)|exact HB.out))):w.heap.size≤gb101));have n3_:=aM ((by rw [hg];exact (Qj (by repeat (first|(with_reducible first|exact HB.out|apply Qc|apply Qa|apply Qb)|exact HB.out))):w.heap.size≤gb101));clear HB;have HB:=n0_;have BK101:=n1_;have GW101:=n2_;have GE101:=n3_;clear n0_ n1_ n2_ n3_;clear hb hbox hg;have hcz8_0:w7.cell? ⟨gb101,0,none⟩=some (.int .i64 a0_0):=(blk_cell BK101.out 0).trans rfl;have hcz8_1:w7.cell? ⟨gb101,1,none⟩=some (.int .i64 a0_1):=(blk_cell BK101.out 1).trans rfl;have hfz8_0:=Qk BK101.out 0;have hfz8_1:=Qk BK101.out 1)|((with_reducible refine Qh (f:=113) rfl ?_);refine goesL_ (some 5) rfl rfl Try.func113 (by kernel_rfl) rfl #[.int .i64 a0_0,.int .i64 (-1000000000),.int .i64 1000000000] rfl (by (try simp only [aD,aE,aF]);first|done|rfl|(simp only [aG,aH];rfl)) ?_;(with_reducible refine (impl_within.calls a0_0 (-1000000000) 1000000000 true _ A2.out).mono ?_);rintro e w' ⟨rfl,⟨nd,rfl⟩⟩;refine ⟨_,rfl,?_⟩)|(go_at_call 113;(with_reducible refine (impl_within.calls a0_1 1 1000000000 true _ A4.out).mono ?_);rintro e w' ⟨rfl,⟨nd,rfl⟩⟩)|(go_at_call 216;(with_reducible refine (impl_divisor.calls k a0_0 a0_1 t104 _ A6.out).mono ?_);rintro e w9 ⟨rfl,hb⟩;have n0_:=aM (blk_below (g:=gb101) (o:= .cells #[.int .i64 a0_0,.int .i64 a0_1] 35 (0,0)) (by (with_reducible repeat (first|apply Qe|apply Qf|apply Qd));exact BK101.out) hb);have n1_:=aM (Qi (by repeat (first|(with_reducible first|exact HB.out|apply Qc|apply Qa|apply Qb|refine Qg ?_ GE101.out)|exact HB.out)) hb);clear BK101;clear HB;have BK101:=n0_;have HB:=n1_;clear n0_ n1_;(try clear hb);(try clear hb2);(try clear hk);(try clear hi)))
    go_ret
    exact ⟨by first|rfl|(simp [errW_none,errW_some] <;> rfl)|(simp [*,errW_none,errW_some] <;> rfl),by repeat (first|(with_reducible first|exact HB.out|apply Qc|apply Qa|apply Qb|refine Qg ?_ GE101.out)|exact HB.out)⟩
   ·replace c5:=Bool.eq_false_iff.mpr c5;subst c5;have H1:(some false)=some r:=by rw [if_neg (show ¬ (false=true) by decide)] at H;exact H
    clear H;have H:=H1;clear H1;obtain rfl:=Option.some.inj H;go_enter Try.func206,Try.ntmps206;go_wp2_with (first|((with_reducible refine gate_dst (N:=1) rfl ?_);refine box_event ?hg (N:=1) ?hd (cs:=#[.int .i64 a0_0,.int .i64 a0_1]) (t:=35) ?hr ?_;(case hd=>rfl);(case hg=>rfl);(case hr=>first|(go_simp;done)|(go_simp;rfl));intro gb101 hg w10 hbox hb;have n0_:=aM (Qi (by repeat (first|(with_reducible first|exact HB.out|apply Qc|apply Qa|apply Qb)|exact HB.out)) hb);have n1_:=aM (hbox);have n2_:=aM ((by rw [hg];exact (Qj (by repeat (first|(with_reducible first|exact HB.out|apply Qc|apply Qa|apply Qb)|exact HB.out))):w.heap.size≤gb101));have n3_:=aM ((by rw [hg];exact (Qj (by repeat (first|(with_reducible first|exact HB.out|apply Qc|apply Qa|apply Qb)|exact HB.out))):w.heap.size≤gb101));clear HB;have HB:=n0_;have BK101:=n1_;have GW101:=n2_;have GE101:=n3_;clear n0_ n1_ n2_ n3_;clear hb hbox hg;have hcz11_0:w10.cell? ⟨gb101,0,none⟩=some (.int .i64 a0_0):=(blk_cell BK101.out 0).trans rfl;have hcz11_1:w10.cell? ⟨gb101,1,none⟩=some (.int .i64 a0_1):=(blk_cell BK101.out 1).trans rfl;have hfz11_0:=Qk BK101.out 0;have hfz11_1:=Qk BK101.out 1)|((with_reducible refine Qh (f:=113) rfl ?_);refine goesL_ (some 5) rfl rfl Try.func113 (by kernel_rfl) rfl #[.int .i64 a0_0,.int .i64 (-1000000000),.int .i64 1000000000] rfl (by (try simp only [aD,aE,aF]);first|done|rfl|(simp only [aG,aH];rfl)) ?_;(with_reducible refine (impl_within.calls a0_0 (-1000000000) 1000000000 true _ A2.out).mono ?_);rintro e w' ⟨rfl,⟨nd,rfl⟩⟩;refine ⟨_,rfl,?_⟩)|(go_at_call 113;(with_reducible refine (impl_within.calls a0_1 1 1000000000 false _ A4.out).mono ?_);rintro e w' ⟨rfl,⟨nd,rfl⟩⟩))
    go_ret
    exact ⟨by first|rfl|(simp [errW_none,errW_some] <;> rfl)|(simp [*,errW_none,errW_some] <;> rfl),by repeat (first|(with_reducible first|exact HB.out|apply Qc|apply Qa|apply Qb|refine Qg ?_ GE101.out)|exact HB.out)⟩
  ·replace c3:=Bool.eq_false_iff.mpr c3;subst c3;have H1:(some false)=some r:=by rw [if_neg (show ¬ (false=true) by decide)] at H;exact H
   clear H;have H:=H1;clear H1;obtain rfl:=Option.some.inj H;go_enter Try.func206,Try.ntmps206;go_wp2_with (first|((with_reducible refine gate_dst (N:=1) rfl ?_);refine box_event ?hg (N:=1) ?hd (cs:=#[.int .i64 a0_0,.int .i64 a0_1]) (t:=35) ?hr ?_;(case hd=>rfl);(case hg=>rfl);(case hr=>first|(go_simp;done)|(go_simp;rfl));intro gb101 hg w12 hbox hb;have n0_:=aM (Qi (by repeat (first|(with_reducible first|exact HB.out|apply Qc|apply Qa|apply Qb)|exact HB.out)) hb);have n1_:=aM (hbox);have n2_:=aM ((by rw [hg];exact (Qj (by repeat (first|(with_reducible first|exact HB.out|apply Qc|apply Qa|apply Qb)|exact HB.out))):w.heap.size≤gb101));have n3_:=aM ((by rw [hg];exact (Qj (by repeat (first|(with_reducible first|exact HB.out|apply Qc|apply Qa|apply Qb)|exact HB.out))):w.heap.size≤gb101));clear HB;have HB:=n0_;have BK101:=n1_;have GW101:=n2_;have GE101:=n3_;clear n0_ n1_ n2_ n3_;clear hb hbox hg;have hcz13_0:w12.cell? ⟨gb101,0,none⟩=some (.int .i64 a0_0):=(blk_cell BK101.out 0).trans rfl;have hcz13_1:w12.cell? ⟨gb101,1,none⟩=some (.int .i64 a0_1):=(blk_cell BK101.out 1).trans rfl;have hfz13_0:=Qk BK101.out 0;have hfz13_1:=Qk BK101.out 1)|((with_reducible refine Qh (f:=113) rfl ?_);refine goesL_ (some 5) rfl rfl Try.func113 (by kernel_rfl) rfl #[.int .i64 a0_0,.int .i64 (-1000000000),.int .i64 1000000000] rfl (by (try simp only [aD,aE,aF]);first|done|rfl|(simp only [aG,aH];rfl)) ?_;(with_reducible refine (impl_within.calls a0_0 (-1000000000) 1000000000 false _ A2.out).mono ?_);rintro e w' ⟨rfl,⟨nd,rfl⟩⟩;refine ⟨_,rfl,?_⟩))
   go_ret
   exact ⟨by first|rfl|(simp [errW_none,errW_some] <;> rfl)|(simp [*,errW_none,errW_some] <;> rfl),by repeat (first|(with_reducible first|exact HB.out|apply Qc|apply Qa|apply Qb|refine Qg ?_ GE101.out)|exact HB.out)⟩

def impl_lowest.f (k:Nat) (a0:Int) (a1:Int):Option (Int×Int×Bool):=(impl_divisor.f k a0 a1).bind fun t102=>(if a1<0 then (if (wrap64 (-t102))=0 then (none) else ((impl_GoodFrac.f k (wrap64 (Int.tdiv a0 (wrap64 (-t102)))) (wrap64 (Int.tdiv a1 (wrap64 (-t102))))).bind fun t104=>(if t104=true then (some (wrap64 (Int.tdiv a0 (wrap64 (-t102))),wrap64 (Int.tdiv a1 (wrap64 (-t102))),true)) else (some (0,0,false))))) else (if t102=0 then (none) else ((impl_GoodFrac.f k (wrap64 (Int.tdiv a0 t102)) (wrap64 (Int.tdiv a1 t102))).bind fun t106=>(if t106=true then (some (wrap64 (Int.tdiv a0 t102),wrap64 (Int.tdiv a1 t102),true)) else (some (0,0,false))))))
def impl_lowest.T4:Bool×List (List Nat×List Nat):=(true,[([],[]),([],[]),([0,1],[0,1]),([],[]),([],[]),([3,4],[3,4]),([2,5],[2,5]),([],[]),([7,6,0,1,2,3,4,5,6,7],[6,7])])
def impl_lowest.B4:List Nat:=[0,0,3,0,0,24,63,0,255]
theorem impl_lowest.tab4:rtab .any (opsOf Try.f131 4)=impl_lowest.T4:=by kernel_rfl
theorem impl_lowest.bits4:waitsOk impl_lowest.T4.2 impl_lowest.B4=true:=by kernel_rfl
set_option maxHeartbeats 8000000 in
set_option maxRecDepth 100000 in
theorem impl_lowest.calls (k:Nat) (a0:Int) (a1:Int) (r1:Int) (r2:Int) (r3:Bool) (w:World) (h:impl_lowest.f k a0 a1=some (r1,r2,r3)) :
    Calls Try.prog 131 #[.int .i64 a0,.int .i64 a1] w fun e w'=>e= .returned (.tuple #[.agg #[.int .i64 r1,.int .i64 r2],.bool r3])∧Below w.heap.size w w':=by
  have hu35:=Try.underlying35;have HB:=aM (Below.refl w.heap.size w);have H:((impl_divisor.f k a0 a1).bind fun t102=>(if a1<0 then (if (wrap64 (-t102))=0 then (none) else ((impl_GoodFrac.f k (wrap64 (Int.tdiv a0 (wrap64 (-t102)))) (wrap64 (Int.tdiv a1 (wrap64 (-t102))))).bind fun t104=>(if t104=true then (some (wrap64 (Int.tdiv a0 (wrap64 (-t102))),wrap64 (Int.tdiv a1 (wrap64 (-t102))),true)) else (some (0,0,false))))) else (if t102=0 then (none) else ((impl_GoodFrac.f k (wrap64 (Int.tdiv a0 t102)) (wrap64 (Int.tdiv a1 t102))).bind fun t106=>(if t106=true then (some (wrap64 (Int.tdiv a0 t102),wrap64 (Int.tdiv a1 t102),true)) else (some (0,0,false)))))))=some (r1,r2,r3):=h;clear h;replace H:=Option.bind_eq_some_iff.mp H;obtain ⟨t102,A30,H⟩:=H;replace H:(if a1<0 then (if (wrap64 (-t102))=0 then (none) else ((impl_GoodFrac.f k (wrap64 (Int.tdiv a0 (wrap64 (-t102)))) (wrap64 (Int.tdiv a1 (wrap64 (-t102))))).bind fun t104=>(if t104=true then (some (wrap64 (Int.tdiv a0 (wrap64 (-t102))),wrap64 (Int.tdiv a1 (wrap64 (-t102))),true)) else (some (0,0,false))))) else (if t102=0 then (none) else ((impl_GoodFrac.f k (wrap64 (Int.tdiv a0 t102)) (wrap64 (Int.tdiv a1 t102))).bind fun t106=>(if t106=true then (some (wrap64 (Int.tdiv a0 t102),wrap64 (Int.tdiv a1 t102),true)) else (some (0,0,false))))))=some (r1,r2,r3):=H;have A3:=aM A30;clear A30;by_cases c4:a1<0
  ·rw [if_pos c4] at H;have c4b0:decide (a1<0)=true:=decide_eq_true c4;clear c4;by_cases c5:(wrap64 (-t102))=0
   ·rw [if_pos c5] at H;exact absurd H (by simp)
   ·rw [if_neg c5] at H;have c5b0:((wrap64 (-t102)) == 0)=false:=beq_eq_false_iff_ne.mpr c5;have c5b1:((wrap64 (-t102)) != 0)=true:=bne_iff_ne.mpr c5;replace H:=Option.bind_eq_some_iff.mp H;obtain ⟨t104,A60,H⟩:=H;replace H:(if t104=true then (some (wrap64 (Int.tdiv a0 (wrap64 (-t102))),wrap64 (Int.tdiv a1 (wrap64 (-t102))),true)) else (some (0,0,false)))=some (r1,r2,r3):=H;have A6:=aM A60;clear A60;by_cases c7:t104=true
    ·subst c7;have H1:(some (wrap64 (Int.tdiv a0 (wrap64 (-t102))),wrap64 (Int.tdiv a1 (wrap64 (-t102))),true))=some (r1,r2,r3):=by rw [if_pos rfl] at H;exact H
     clear H;have H:=H1;clear H1;simp only [Option.some.injEq,Prod.mk.injEq] at H;obtain ⟨rfl,rfl,rfl⟩:=H;go_enter Try.func131,Try.ntmps131
     try go_wp2_with (first|((with_reducible refine gate_dst (N:=4) rfl ?_);refine box_event ?hg (N:=4) ?hd (cs:=#[.int .i64 0,.int .i64 0]) (t:=35) ?hr ?_;(case hd=>rfl);(case hg=>rfl);(case hr=>first|(go_simp;done)|(go_simp;rfl));intro gb101 hg w8 hbox hb;have n0_:=aM (Qi (by repeat (first|(with_reducible first|exact HB.out|apply Qc|apply Qa|apply Qb)|exact HB.out)) hb);have n1_:=aM (hbox);have n2_:=aM ((by rw [hg];exact (Qj (by repeat (first|(with_reducible first|exact HB.out|apply Qc|apply Qa|apply Qb)|exact HB.out))):w.heap.size≤gb101));have n3_:=aM ((by rw [hg];exact (Qj (by repeat (first|(with_reducible first|exact HB.out|apply Qc|apply Qa|apply Qb)|exact HB.out))):w.heap.size≤gb101));clear HB;have HB:=n0_;have BK101:=n1_;have GW101:=n2_;have GE101:=n3_;clear n0_ n1_ n2_ n3_;clear hb hbox hg)|((with_reducible refine Qh (f:=216) rfl ?_);refine goesL_ (some 10) rfl rfl Try.func216 (by kernel_rfl) rfl #[.int .i64 a0,.int .i64 a1] rfl (by (try simp only [aD,aE,aF]);first|done|rfl|(simp only [aG,aH];rfl)) ?_;(with_reducible refine (impl_divisor.calls k a0 a1 t102 _ A3.out).mono ?_);rintro e w9 ⟨rfl,hb⟩;refine ⟨_,rfl,?_⟩;have n0_:=aM (blk_below (g:=gb101) (o:= .cells #[.int .i64 0,.int .i64 0] 35 (0,0)) (by (with_reducible repeat (first|apply Qe|apply Qf|apply Qd));exact BK101.out) hb);have n1_:=aM (Qi (by repeat (first|(with_reducible first|exact HB.out|apply Qc|apply Qa|apply Qb|refine Qg ?_ GE101.out)|exact HB.out)) hb);clear BK101;clear HB;have BK101:=n0_;have HB:=n1_;clear n0_ n1_;(try clear hb);(try clear hb2);(try clear hk);(try clear hi)))
     have n0_:=aM (Qf BK101.out);have n1_:=aM (Qb HB.out);clear BK101;clear HB;have BK101:=n0_;have HB:=n1_;clear n0_ n1_;refine start_ (n:=9) (S:=fun w'=>True) (ds:=[]) #[false,false,false,false,false,false,false,false,false] (by kernel_rfl) rfl rfl trivial (fun hHeld=>?_);refine with_tabW impl_lowest.tab4 impl_lowest.bits4 (fun HT_ HW_=>?_)
     generalize w9.drew=w10 at BK101 HB hHeld ⊢
     refine pure_ (i:=0) (N:=some 15) (v:=?_) (a':=?_) #[true,false,false,false,false,false,false,false,false] rfl rfl (any_of HT_.out (by kernel_rfl)) (fun _ _ _ h=>h) (Or.inl ⟨by rfl,?_⟩) ?_ ?_
     rotate_left
     ·intro w'
      go_simp
      with_reducible rfl
     rotate_left
     ·simp only [Act.put,aA,aB,aC,i64_w,i32_w]
      rfl
     refine pure_ (i:=1) (N:=some 16) (v:=?_) (a':=?_) #[true,true,false,false,false,false,false,false,false] rfl rfl (any_of HT_.out (by kernel_rfl)) (fun _ _ _ h=>h) (Or.inl ⟨by rfl,?_⟩) ?_ ?_
     rotate_left
     ·intro w'
      go_simp
      with_reducible rfl
     rotate_left
     ·simp only [Act.put,aA,aB,aC,i64_w,i32_w]
      rfl
     refine pure_ (i:=2) (N:=some 17) (v:=?_) (a':=?_) #[true,true,true,false,false,false,false,false,false] rfl rfl (any_of HT_.out (by kernel_rfl)) (fun _ _ _ h=>h) (Or.inl ⟨by rfl,?_⟩) ?_ ?_
     rotate_left
     ·intro w'
      go_simp
      with_reducible rfl
     rotate_left
     ·simp only [Act.put,aA,aB,aC,i64_w,i32_w]
      rfl
     refine pure_ (i:=3) (N:=some 18) (v:=?_) (a':=?_) #[true,true,true,true,false,false,false,false,false] rfl rfl (any_of HT_.out (by kernel_rfl)) (fun _ _ _ h=>h) (Or.inl ⟨by rfl,?_⟩) ?_ ?_
     rotate_left
     ·intro w'
      go_simp
      with_reducible rfl
     rotate_left
     ·simp only [Act.put,aA,aB,aC,i64_w,i32_w]
      rfl
     refine pure_ (i:=4) (N:=some 19) (v:=?_) (a':=?_) #[true,true,true,true,true,false,false,false,false] rfl rfl (any_of HT_.out (by kernel_rfl)) (fun _ _ _ h=>h) (Or.inl ⟨by rfl,?_⟩) ?_ ?_
     rotate_left
     ·intro w'
      go_simp
      with_reducible rfl
     rotate_left
     ·simp only [Act.put,aA,aB,aC,i64_w,i32_w]
      rfl
     refine pure_ (i:=5) (N:=some 20) (v:=?_) (a':=?_) #[true,true,true,true,true,true,false,false,false] rfl rfl (any_of HT_.out (by kernel_rfl)) (fun _ _ _ h=>h) (Or.inl ⟨by rfl,?_⟩) ?_ ?_
     rotate_left
     ·intro w'
      go_simp
      with_reducible rfl
     rotate_left
     ·simp only [Act.put,aA,aB,aC,i64_w,i32_w]
      rfl
     refine pure_ (i:=6) (N:=some 21) (v:=?_) (a':=?_) #[true,true,true,true,true,true,true,false,false] rfl rfl (any_of HT_.out (by kernel_rfl)) (fun _ _ _ h=>h) (Or.inl ⟨by rfl,?_⟩) ?_ ?_
     rotate_left
     ·intro w'
      go_simp
      with_reducible rfl
     rotate_left
     ·simp only [Act.put,aA,aB,aC,i64_w,i32_w]
      rfl
     refine one_ (i:=7) (N:=some 7) #[true,true,true,true,true,true,true,true,false] rfl rfl (one_of HT_.out (by kernel_rfl)) (by decide) (fun K hK=>?_);refine box_step ?hg (N:=7) ?hd (cs:=#[.int .i64 0,.int .i64 0]) (t:=35) ?hr ?_;(case hd=>rfl);(case hg=>rfl);(case hr=>first|(go_simp;done)|(go_simp;rfl));intro gb103 hg w11 hbox hb;have n0_:=aM (blk_below (g:=gb101) (o:= .cells #[.int .i64 0,.int .i64 0] 35 (0,0)) (by (with_reducible repeat (first|apply Qe|apply Qf|apply Qd));exact BK101.out) hb);have n1_:=aM (Qi (by repeat (first|(with_reducible first|exact HB.out|apply Qc|apply Qa|apply Qb|refine Qg ?_ GE101.out)|exact HB.out)) hb);have n2_:=aM (hbox);have n3_:=aM ((by rw [hg];exact (Qj (by repeat (first|(with_reducible first|exact HB.out|apply Qc|apply Qa|apply Qb|refine Qg ?_ GE101.out)|exact HB.out))):w.heap.size≤gb103));have n4_:=aM ((by rw [hg];exact (Qj (by repeat (first|(with_reducible first|exact HB.out|apply Qc|apply Qa|apply Qb|refine Qg ?_ GE101.out)|exact HB.out))):w.heap.size≤gb103));have n5_:=aM ((by rw [hg];exact Nat.ne_of_lt (blk_lt (g:=gb101) (o:= .cells #[.int .i64 0,.int .i64 0] 35 (0,0)) (by (with_reducible repeat (first|apply Qe|apply Qf|apply Qd));exact BK101.out)):gb101≠gb103));have n6_:=aM ((by rw [hg];exact Nat.ne_of_gt (blk_lt (g:=gb101) (o:= .cells #[.int .i64 0,.int .i64 0] 35 (0,0)) (by (with_reducible repeat (first|apply Qe|apply Qf|apply Qd));exact BK101.out)):gb103≠gb101));clear BK101;clear HB;have BK101:=n0_;have HB:=n1_;have BK103:=n2_;have GW103:=n3_;have GE103:=n4_;have NB101_103:=n5_;have NB103_101:=n6_;clear n0_ n1_ n2_ n3_ n4_ n5_ n6_;clear hb hbox hg;refine hK.out _ _ trivial (fun hHeld=>?_);clear hK K;refine norm_ (a':=?_) ?_ ?_
     rotate_left
     ·show Act.put _ (some 7) _=_
      simp only [Act.put,aA,aB,aC,i64_w,i32_w]
      rfl
     refine one_ (i:=8) (N:=none) #[true,true,true,true,true,true,true,true,true] rfl rfl (one_of HT_.out (by kernel_rfl)) (by decide) (fun K hK=>?_);have hs12:w11.cell? ⟨gb103,0,none⟩=some (.int .i64 0):=(blk_cell BK103.out 0).trans rfl;have hfs12:=Qk BK103.out 0;have hns12_0:=NB101_103.out;have hms12_0:=NB103_101.out;have hs13:w11.cell? ⟨gb103,1,none⟩=some (.int .i64 0):=(blk_cell BK103.out 1).trans rfl;have hfs13:=Qk BK103.out 1;have hns13_0:=NB101_103.out;have hms13_0:=NB103_101.out;refine skip_ (w1:=?_) (by rfl) rfl ?_ ?_
     rotate_left
     ·go_simp
      rfl
     refine hK.out _ _ trivial (fun hHeld=>?_);clear hK K;refine done_ (done_of HT_.out (by kernel_rfl)) ?_;have hnb14:=NB103_101.out;have hnc14:=NB101_103.out;have hcz15_0:w11.cell? ⟨gb103,0,none⟩=some (.int .i64 0):=(blk_cell BK103.out 0).trans rfl;have hcz15_1:w11.cell? ⟨gb103,1,none⟩=some (.int .i64 0):=(blk_cell BK103.out 1).trans rfl;have hfz15_0:=Qk BK103.out 0;have hfz15_1:=Qk BK103.out 1
     try go_wp2_with (first|((with_reducible refine Qh (f:=206) rfl ?_);refine goesL_ (some 23) rfl rfl Try.func206 (by kernel_rfl) rfl #[.agg #[.int .i64 (wrap64 (Int.tdiv a0 (wrap64 (-t102)))),.int .i64 (wrap64 (Int.tdiv a1 (wrap64 (-t102))))]] rfl (by (try simp only [aD,aE,aF]);first|done|rfl|(simp only [aG,aH];rfl)) ?_;(with_reducible refine (impl_GoodFrac.calls k (wrap64 (Int.tdiv a0 (wrap64 (-t102)))) (wrap64 (Int.tdiv a1 (wrap64 (-t102)))) true _ A6.out).mono ?_);rintro e w16 ⟨rfl,hb⟩;refine ⟨_,rfl,?_⟩;have n0_:=aM (blk_below (g:=gb101) (o:= .cells #[.int .i64 0,.int .i64 0] 35 (0,0)) (by (with_reducible repeat (first|apply Qe|apply Qf|apply Qd));refine blk_far ?_ NB101_103.out _;(with_reducible repeat (first|apply Qe|apply Qf|apply Qd));refine blk_far ?_ NB101_103.out _;(with_reducible repeat (first|apply Qe|apply Qf|apply Qd));exact BK101.out) hb);have n1_:=aM (blk_below (g:=gb103) (o:= .cells #[.int .i64 (wrap64 (Int.tdiv a0 (wrap64 (-t102)))),.int .i64 (wrap64 (Int.tdiv a1 (wrap64 (-t102))))] 35 (0,0)) (by (with_reducible repeat (first|apply Qe|apply Qf|apply Qd));refine blk_put (cs:=#[.int .i64 (wrap64 (Int.tdiv a0 (wrap64 (-t102)))),.int .i64 0]) ?_ 1 _ rfl;(with_reducible repeat (first|apply Qe|apply Qf|apply Qd));refine blk_put (cs:=#[.int .i64 0,.int .i64 0]) ?_ 0 _ rfl;(with_reducible repeat (first|apply Qe|apply Qf|apply Qd));exact BK103.out) hb);have n2_:=aM (Qi (by repeat (first|(with_reducible first|exact HB.out|apply Qc|apply Qa|apply Qb|refine Qg ?_ GE101.out|refine Qg ?_ GE103.out)|exact HB.out)) hb);clear BK101;clear BK103;clear HB;have BK101:=n0_;have BK103:=n1_;have HB:=n2_;clear n0_ n1_ n2_;(try clear hb);(try clear hb2);(try clear hk);(try clear hi);have hcz17_0:w16.cell? ⟨gb103,0,none⟩=some (.int .i64 (wrap64 (Int.tdiv a0 (wrap64 (-t102))))):=(blk_cell BK103.out 0).trans rfl;have hcz17_1:w16.cell? ⟨gb103,1,none⟩=some (.int .i64 (wrap64 (Int.tdiv a1 (wrap64 (-t102))))):=(blk_cell BK103.out 1).trans rfl;have hfz17_0:=Qk BK103.out 0;have hfz17_1:=Qk BK103.out 1;have hcz18_0:w16.cell? ⟨gb101,0,none⟩=some (.int .i64 0):=(blk_cell BK101.out 0).trans rfl;have hcz18_1:w16.cell? ⟨gb101,1,none⟩=some (.int .i64 0):=(blk_cell BK101.out 1).trans rfl;have hfz18_0:=Qk BK101.out 0;have hfz18_1:=Qk BK101.out 1))
     refine bodyPost_ret (results_ct rfl _ _ gb101 35 #[.int .i64 (wrap64 (Int.tdiv a0 (wrap64 (-t102)))),.int .i64 (wrap64 (Int.tdiv a1 (wrap64 (-t102))))] (0,0) _ rfl (by (with_reducible repeat (first|apply Qe|apply Qf|apply Qd));refine blk_put (cs:=#[.int .i64 (wrap64 (Int.tdiv a0 (wrap64 (-t102)))),.int .i64 0]) ?_ 1 _ rfl;(with_reducible repeat (first|apply Qe|apply Qf|apply Qd));refine blk_put (cs:=#[.int .i64 0,.int .i64 0]) ?_ 0 _ rfl;(with_reducible repeat (first|apply Qe|apply Qf|apply Qd));exact BK101.out) Try.underlying35 rfl (by kernel_rfl)) rfl ?_;exact ⟨by first|rfl|(simp [errW_none,errW_some] <;> rfl)|(simp [*,errW_none,errW_some] <;> rfl),by repeat (first|(with_reducible first|exact HB.out|apply Qc|apply Qa|apply Qb|refine Qg ?_ GE101.out|refine Qg ?_ GE103.out)|exact HB.out)⟩
    ·replace c7:=Bool.eq_false_iff.mpr c7;subst c7;have H1:(some (0,0,false))=some (r1,r2,r3):=by rw [if_neg (show ¬ (false=true) by decide)] at H;exact H
     clear H;have H:=H1;clear H1;simp only [Option.some.injEq,Prod.mk.injEq] at H;obtain ⟨rfl,rfl,rfl⟩:=H;go_enter Try.func131,Try.ntmps131
     try go_wp2_with (first|((with_reducible refine gate_dst (N:=4) rfl ?_);refine box_event ?hg (N:=4) ?hd (cs:=#[.int .i64 0,.int .i64 0]) (t:=35) ?hr ?_;(case hd=>rfl);(case hg=>rfl);(case hr=>first|(go_simp;done)|(go_simp;rfl));intro gb101 hg w19 hbox hb;have n0_:=aM (Qi (by repeat (first|(with_reducible first|exact HB.out|apply Qc|apply Qa|apply Qb)|exact HB.out)) hb);have n1_:=aM (hbox);have n2_:=aM ((by rw [hg];exact (Qj (by repeat (first|(with_reducible first|exact HB.out|apply Qc|apply Qa|apply Qb)|exact HB.out))):w.heap.size≤gb101));have n3_:=aM ((by rw [hg];exact (Qj (by repeat (first|(with_reducible first|exact HB.out|apply Qc|apply Qa|apply Qb)|exact HB.out))):w.heap.size≤gb101));clear HB;have HB:=n0_;have BK101:=n1_;have GW101:=n2_;have GE101:=n3_;clear n0_ n1_ n2_ n3_;clear hb hbox hg)|((with_reducible refine Qh (f:=216) rfl ?_);refine goesL_ (some 10) rfl rfl Try.func216 (by kernel_rfl) rfl #[.int .i64 a0,.int .i64 a1] rfl (by (try simp only [aD,aE,aF]);first|done|rfl|(simp only [aG,aH];rfl)) ?_;(with_reducible refine (impl_divisor.calls k a0 a1 t102 _ A3.out).mono ?_);rintro e w20 ⟨rfl,hb⟩;refine ⟨_,rfl,?_⟩;have n0_:=aM (blk_below (g:=gb101) (o:= .cells #[.int .i64 0,.int .i64 0] 35 (0,0)) (by (with_reducible repeat (first|apply Qe|apply Qf|apply Qd));exact BK101.out) hb);have n1_:=aM (Qi (by repeat (first|(with_reducible first|exact HB.out|apply Qc|apply Qa|apply Qb|refine Qg ?_ GE101.out)|exact HB.out)) hb);clear BK101;clear HB;have BK101:=n0_;have HB:=n1_;clear n0_ n1_;(try clear hb);(try clear hb2);(try clear hk);(try clear hi)))
     have n0_:=aM (Qf BK101.out);have n1_:=aM (Qb HB.out);clear BK101;clear HB;have BK101:=n0_;have HB:=n1_;clear n0_ n1_;refine start_ (n:=9) (S:=fun w'=>True) (ds:=[]) #[false,false,false,false,false,false,false,false,false] (by kernel_rfl) rfl rfl trivial (fun hHeld=>?_);refine with_tabW impl_lowest.tab4 impl_lowest.bits4 (fun HT_ HW_=>?_)
     generalize w20.drew=w21 at BK101 HB hHeld ⊢
     refine pure_ (i:=0) (N:=some 15) (v:=?_) (a':=?_) #[true,false,false,false,false,false,false,false,false] rfl rfl (any_of HT_.out (by kernel_rfl)) (fun _ _ _ h=>h) (Or.inl ⟨by rfl,?_⟩) ?_ ?_
     rotate_left
     ·intro w'
      go_simp
      with_reducible rfl
     rotate_left
     ·simp only [Act.put,aA,aB,aC,i64_w,i32_w]
      rfl
     refine pure_ (i:=1) (N:=some 16) (v:=?_) (a':=?_) #[true,true,false,false,false,false,false,false,false] rfl rfl (any_of HT_.out (by kernel_rfl)) (fun _ _ _ h=>h) (Or.inl ⟨by rfl,?_⟩) ?_ ?_
     rotate_left
     ·intro w'
      go_simp
      with_reducible rfl
     rotate_left
     ·simp only [Act.put,aA,aB,aC,i64_w,i32_w]
      rfl
     refine pure_ (i:=2) (N:=some 17) (v:=?_) (a':=?_) #[true,true,true,false,false,false,false,false,false] rfl rfl (any_of HT_.out (by kernel_rfl)) (fun _ _ _ h=>h) (Or.inl ⟨by rfl,?_⟩) ?_ ?_
     rotate_left
     ·intro w'
      go_simp
      with_reducible rfl
     rotate_left
     ·simp only [Act.put,aA,aB,aC,i64_w,i32_w]
      rfl
     refine pure_ (i:=3) (N:=some 18) (v:=?_) (a':=?_) #[true,true,true,true,false,false,false,false,false] rfl rfl (any_of HT_.out (by kernel_rfl)) (fun _ _ _ h=>h) (Or.inl ⟨by rfl,?_⟩) ?_ ?_
     rotate_left
     ·intro w'
      go_simp
      with_reducible rfl
     rotate_left
     ·simp only [Act.put,aA,aB,aC,i64_w,i32_w]
      rfl
     refine pure_ (i:=4) (N:=some 19) (v:=?_) (a':=?_) #[true,true,true,true,true,false,false,false,false] rfl rfl (any_of HT_.out (by kernel_rfl)) (fun _ _ _ h=>h) (Or.inl ⟨by rfl,?_⟩) ?_ ?_
     rotate_left
     ·intro w'
      go_simp
      with_reducible rfl
     rotate_left
     ·simp only [Act.put,aA,aB,aC,i64_w,i32_w]
      rfl
     refine pure_ (i:=5) (N:=some 20) (v:=?_) (a':=?_) #[true,true,true,true,true,true,false,false,false] rfl rfl (any_of HT_.out (by kernel_rfl)) (fun _ _ _ h=>h) (Or.inl ⟨by rfl,?_⟩) ?_ ?_
     rotate_left
     ·intro w'
      go_simp
      with_reducible rfl
     rotate_left
     ·simp only [Act.put,aA,aB,aC,i64_w,i32_w]
      rfl
     refine pure_ (i:=6) (N:=some 21) (v:=?_) (a':=?_) #[true,true,true,true,true,true,true,false,false] rfl rfl (any_of HT_.out (by kernel_rfl)) (fun _ _ _ h=>h) (Or.inl ⟨by rfl,?_⟩) ?_ ?_
     rotate_left
     ·intro w'
      go_simp
      with_reducible rfl
     rotate_left
     ·simp only [Act.put,aA,aB,aC,i64_w,i32_w]
      rfl
     refine one_ (i:=7) (N:=some 7) #[true,true,true,true,true,true,true,true,false] rfl rfl (one_of HT_.out (by kernel_rfl)) (by decide) (fun K hK=>?_);refine box_step ?hg (N:=7) ?hd (cs:=#[.int .i64 0,.int .i64 0]) (t:=35) ?hr ?_;(case hd=>rfl);(case hg=>rfl);(case hr=>first|(go_simp;done)|(go_simp;rfl));intro gb103 hg w22 hbox hb;have n0_:=aM (blk_below (g:=gb101) (o:= .cells #[.int .i64 0,.int .i64 0] 35 (0,0)) (by (with_reducible repeat (first|apply Qe|apply Qf|apply Qd));exact BK101.out) hb);have n1_:=aM (Qi (by repeat (first|(with_reducible first|exact HB.out|apply Qc|apply Qa|apply Qb|refine Qg ?_ GE101.out)|exact HB.out)) hb);have n2_:=aM (hbox);have n3_:=aM ((by rw [hg];exact (Qj (by repeat (first|(with_reducible first|exact HB.out|apply Qc|apply Qa|apply Qb|refine Qg ?_ GE101.out)|exact HB.out))):w.heap.size≤gb103));have n4_:=aM ((by rw [hg];exact (Qj (by repeat (first|(with_reducible first|exact HB.out|apply Qc|apply Qa|apply Qb|refine Qg ?_ GE101.out)|exact HB.out))):w.heap.size≤gb103));have n5_:=aM ((by rw [hg];exact Nat.ne_of_lt (blk_lt (g:=gb101) (o:= .cells #[.int .i64 0,.int .i64 0] 35 (0,0)) (by (with_reducible repeat (first|apply Qe|apply Qf|apply Qd));exact BK101.out)):gb101≠gb103));have n6_:=aM ((by rw [hg];exact Nat.ne_of_gt (blk_lt (g:=gb101) (o:= .cells #[.int .i64 0,.int .i64 0] 35 (0,0)) (by (with_reducible repeat (first|apply Qe|apply Qf|apply Qd));exact BK101.out)):gb103≠gb101));clear BK101;clear HB;have BK101:=n0_;have HB:=n1_;have BK103:=n2_;have GW103:=n3_;have GE103:=n4_;have NB101_103:=n5_;have NB103_101:=n6_;clear n0_ n1_ n2_ n3_ n4_ n5_ n6_;clear hb hbox hg;refine hK.out _ _ trivial (fun hHeld=>?_);clear hK K;refine norm_ (a':=?_) ?_ ?_
     rotate_left
     ·show Act.put _ (some 7) _=_
      simp only [Act.put,aA,aB,aC,i64_w,i32_w]
      rfl
     refine one_ (i:=8) (N:=none) #[true,true,true,true,true,true,true,true,true] rfl rfl (one_of HT_.out (by kernel_rfl)) (by decide) (fun K hK=>?_);have hs23:w22.cell? ⟨gb103,0,none⟩=some (.int .i64 0):=(blk_cell BK103.out 0).trans rfl;have hfs23:=Qk BK103.out 0;have hns23_0:=NB101_103.out;have hms23_0:=NB103_101.out;have hs24:w22.cell? ⟨gb103,1,none⟩=some (.int .i64 0):=(blk_cell BK103.out 1).trans rfl;have hfs24:=Qk BK103.out 1;have hns24_0:=NB101_103.out;have hms24_0:=NB103_101.out;refine skip_ (w1:=?_) (by rfl) rfl ?_ ?_
     rotate_left
     ·go_simp
      rfl
     refine hK.out _ _ trivial (fun hHeld=>?_);clear hK K;refine done_ (done_of HT_.out (by kernel_rfl)) ?_;have hnb25:=NB103_101.out;have hnc25:=NB101_103.out;have hcz26_0:w22.cell? ⟨gb103,0,none⟩=some (.int .i64 0):=(blk_cell BK103.out 0).trans rfl;have hcz26_1:w22.cell? ⟨gb103,1,none⟩=some (.int .i64 0):=(blk_cell BK103.out 1).trans rfl;have hfz26_0:=Qk BK103.out 0;have hfz26_1:=Qk BK103.out 1
     try go_wp2_with (first|((with_reducible refine Qh (f:=206) rfl ?_);refine goesL_ (some 23) rfl rfl Try.func206 (by kernel_rfl) rfl #[.agg #[.int .i64 (wrap64 (Int.tdiv a0 (wrap64 (-t102)))),.int .i64 (wrap64 (Int.tdiv a1 (wrap64 (-t102))))]] rfl (by (try simp only [aD,aE,aF]);first|done|rfl|(simp only [aG,aH];rfl)) ?_;(with_reducible refine (impl_GoodFrac.calls k (wrap64 (Int.tdiv a0 (wrap64 (-t102)))) (wrap64 (Int.tdiv a1 (wrap64 (-t102)))) false _ A6.out).mono ?_);rintro e w27 ⟨rfl,hb⟩;refine ⟨_,rfl,?_⟩;have n0_:=aM (blk_below (g:=gb101) (o:= .cells #[.int .i64 0,.int .i64 0] 35 (0,0)) (by (with_reducible repeat (first|apply Qe|apply Qf|apply Qd));refine blk_far ?_ NB101_103.out _;(with_reducible repeat (first|apply Qe|apply Qf|apply Qd));refine blk_far ?_ NB101_103.out _;(with_reducible repeat (first|apply Qe|apply Qf|apply Qd));exact BK101.out) hb);have n1_:=aM (blk_below (g:=gb103) (o:= .cells #[.int .i64 (wrap64 (Int.tdiv a0 (wrap64 (-t102)))),.int .i64 (wrap64 (Int.tdiv a1 (wrap64 (-t102))))] 35 (0,0)) (by (with_reducible repeat (first|apply Qe|apply Qf|apply Qd));refine blk_put (cs:=#[.int .i64 (wrap64 (Int.tdiv a0 (wrap64 (-t102)))),.int .i64 0]) ?_ 1 _ rfl;(with_reducible repeat (first|apply Qe|apply Qf|apply Qd));refine blk_put (cs:=#[.int .i64 0,.int .i64 0]) ?_ 0 _ rfl;(with_reducible repeat (first|apply Qe|apply Qf|apply Qd));exact BK103.out) hb);have n2_:=aM (Qi (by repeat (first|(with_reducible first|exact HB.out|apply Qc|apply Qa|apply Qb|refine Qg ?_ GE101.out|refine Qg ?_ GE103.out)|exact HB.out)) hb);clear BK101;clear BK103;clear HB;have BK101:=n0_;have BK103:=n1_;have HB:=n2_;clear n0_ n1_ n2_;(try clear hb);(try clear hb2);(try clear hk);(try clear hi);have hcz28_0:w27.cell? ⟨gb101,0,none⟩=some (.int .i64 0):=(blk_cell BK101.out 0).trans rfl;have hcz28_1:w27.cell? ⟨gb101,1,none⟩=some (.int .i64 0):=(blk_cell BK101.out 1).trans rfl;have hfz28_0:=Qk BK101.out 0;have hfz28_1:=Qk BK101.out 1))
     refine bodyPost_ret (results_ct rfl _ _ gb101 35 #[.int .i64 0,.int .i64 0] (0,0) _ rfl (by (with_reducible repeat (first|apply Qe|apply Qf|apply Qd));refine blk_put (cs:=#[.int .i64 0,.int .i64 0]) ?_ 1 _ rfl;(with_reducible repeat (first|apply Qe|apply Qf|apply Qd));refine blk_put (cs:=#[.int .i64 0,.int .i64 0]) ?_ 0 _ rfl;(with_reducible repeat (first|apply Qe|apply Qf|apply Qd));exact BK101.out) Try.underlying35 rfl (by kernel_rfl)) rfl ?_;exact ⟨by first|rfl|(simp [errW_none,errW_some] <;> rfl)|(simp [*,errW_none,errW_some] <;> rfl),by repeat (first|(with_reducible first|exact HB.out|apply Qc|apply Qa|apply Qb|refine Qg ?_ GE101.out|refine Qg ?_ GE103.out)|exact HB.out)⟩
  ·rw [if_neg c4] at H;have c4b0:decide (a1<0)=false:=decide_eq_false c4;clear c4;by_cases c29:t102=0
   ·rw [if_pos c29] at H;exact absurd H (by simp)
   ·rw [if_neg c29] at H;have c29b0:(t102 == 0)=false:=beq_eq_false_iff_ne.mpr c29;have c29b1:(t102 != 0)=true:=bne_iff_ne.mpr c29;replace H:=Option.bind_eq_some_iff.mp H;obtain ⟨t106,A300,H⟩:=H;replace H:(if t106=true then (some (wrap64 (Int.tdiv a0 t102),wrap64 (Int.tdiv a1 t102),true)) else (some (0,0,false)))=some (r1,r2,r3):=H;have A30:=aM A300;clear A300;by_cases c31:t106=true
    ·subst c31;have H1:(some (wrap64 (Int.tdiv a0 t102),wrap64 (Int.tdiv a1 t102),true))=some (r1,r2,r3):=by rw [if_pos rfl] at H;exact H
     clear H;have H:=H1;clear H1;simp only [Option.some.injEq,Prod.mk.injEq] at H;obtain ⟨rfl,rfl,rfl⟩:=H;go_enter Try.func131,Try.ntmps131
     try go_wp2_with (first|((with_reducible refine gate_dst (N:=4) rfl ?_);refine box_event ?hg (N:=4) ?hd (cs:=#[.int .i64 0,.int .i64 0]) (t:=35) ?hr ?_;(case hd=>rfl);(case hg=>rfl);(case hr=>first|(go_simp;done)|(go_simp;rfl));intro gb101 hg w32 hbox hb;have n0_:=aM (Qi (by repeat (first|(with_reducible first|exact HB.out|apply Qc|apply Qa|apply Qb)|exact HB.out)) hb);have n1_:=aM (hbox);have n2_:=aM ((by rw [hg];exact (Qj (by repeat (first|(with_reducible first|exact HB.out|apply Qc|apply Qa|apply Qb)|exact HB.out))):w.heap.size≤gb101));have n3_:=aM ((by rw [hg];exact (Qj (by repeat (first|(with_reducible first|exact HB.out|apply Qc|apply Qa|apply Qb)|exact HB.out))):w.heap.size≤gb101));clear HB;have HB:=n0_;have BK101:=n1_;have GW101:=n2_;have GE101:=n3_;clear n0_ n1_ n2_ n3_;clear hb hbox hg)|((with_reducible refine Qh (f:=216) rfl ?_);refine goesL_ (some 10) rfl rfl Try.func216 (by kernel_rfl) rfl #[.int .i64 a0,.int .i64 a1] rfl (by (try simp only [aD,aE,aF]);first|done|rfl|(simp only [aG,aH];rfl)) ?_;(with_reducible refine (impl_divisor.calls k a0 a1 t102 _ A3.out).mono ?_);rintro e w33 ⟨rfl,hb⟩;refine ⟨_,rfl,?_⟩;have n0_:=aM (blk_below (g:=gb101) (o:= .cells #[.int .i64 0,.int .i64 0] 35 (0,0)) (by (with_reducible repeat (first|apply Qe|apply Qf|apply Qd));exact BK101.out) hb);have n1_:=aM (Qi (by repeat (first|(with_reducible first|exact HB.out|apply Qc|apply Qa|apply Qb|refine Qg ?_ GE101.out)|exact HB.out)) hb);clear BK101;clear HB;have BK101:=n0_;have HB:=n1_;clear n0_ n1_;(try clear hb);(try clear hb2);(try clear hk);(try clear hi)))
     have n0_:=aM (Qf BK101.out);have n1_:=aM (Qb HB.out);clear BK101;clear HB;have BK101:=n0_;have HB:=n1_;clear n0_ n1_;refine start_ (n:=9) (S:=fun w'=>True) (ds:=[]) #[false,false,false,false,false,false,false,false,false] (by kernel_rfl) rfl rfl trivial (fun hHeld=>?_);refine with_tabW impl_lowest.tab4 impl_lowest.bits4 (fun HT_ HW_=>?_)
     generalize w33.drew=w34 at BK101 HB hHeld ⊢
     refine pure_ (i:=0) (N:=some 15) (v:=?_) (a':=?_) #[true,false,false,false,false,false,false,false,false] rfl rfl (any_of HT_.out (by kernel_rfl)) (fun _ _ _ h=>h) (Or.inl ⟨by rfl,?_⟩) ?_ ?_
     rotate_left
     ·intro w'
      go_simp
      with_reducible rfl
     rotate_left
     ·simp only [Act.put,aA,aB,aC,i64_w,i32_w]
      rfl
     refine pure_ (i:=1) (N:=some 16) (v:=?_) (a':=?_) #[true,true,false,false,false,false,false,false,false] rfl rfl (any_of HT_.out (by kernel_rfl)) (fun _ _ _ h=>h) (Or.inl ⟨by rfl,?_⟩) ?_ ?_
     rotate_left
     ·intro w'
      go_simp
      with_reducible rfl
     rotate_left
     ·simp only [Act.put,aA,aB,aC,i64_w,i32_w]
      rfl
     refine pure_ (i:=2) (N:=some 17) (v:=?_) (a':=?_) #[true,true,true,false,false,false,false,false,false] rfl rfl (any_of HT_.out (by kernel_rfl)) (fun _ _ _ h=>h) (Or.inl ⟨by rfl,?_⟩) ?_ ?_
     rotate_left
     ·intro w'
      go_simp
      with_reducible rfl
     rotate_left
     ·simp only [Act.put,aA,aB,aC,i64_w,i32_w]
      rfl
     refine pure_ (i:=3) (N:=some 18) (v:=?_) (a':=?_) #[true,true,true,true,false,false,false,false,false] rfl rfl (any_of HT_.out (by kernel_rfl)) (fun _ _ _ h=>h) (Or.inl ⟨by rfl,?_⟩) ?_ ?_
     rotate_left
     ·intro w'
      go_simp
      with_reducible rfl
     rotate_left
     ·simp only [Act.put,aA,aB,aC,i64_w,i32_w]
      rfl
     refine pure_ (i:=4) (N:=some 19) (v:=?_) (a':=?_) #[true,true,true,true,true,false,false,false,false] rfl rfl (any_of HT_.out (by kernel_rfl)) (fun _ _ _ h=>h) (Or.inl ⟨by rfl,?_⟩) ?_ ?_
     rotate_left
     ·intro w'
      go_simp
      with_reducible rfl
     rotate_left
     ·simp only [Act.put,aA,aB,aC,i64_w,i32_w]
      rfl
     refine pure_ (i:=5) (N:=some 20) (v:=?_) (a':=?_) #[true,true,true,true,true,true,false,false,false] rfl rfl (any_of HT_.out (by kernel_rfl)) (fun _ _ _ h=>h) (Or.inl ⟨by rfl,?_⟩) ?_ ?_
     rotate_left
     ·intro w'
      go_simp
      with_reducible rfl
     rotate_left
     ·simp only [Act.put,aA,aB,aC,i64_w,i32_w]
      rfl
     refine pure_ (i:=6) (N:=some 21) (v:=?_) (a':=?_) #[true,true,true,true,true,true,true,false,false] rfl rfl (any_of HT_.out (by kernel_rfl)) (fun _ _ _ h=>h) (Or.inl ⟨by rfl,?_⟩) ?_ ?_
     rotate_left
     ·intro w'
      go_simp
      with_reducible rfl
     rotate_left
     ·simp only [Act.put,aA,aB,aC,i64_w,i32_w]
      rfl
     refine one_ (i:=7) (N:=some 7) #[true,true,true,true,true,true,true,true,false] rfl rfl (one_of HT_.out (by kernel_rfl)) (by decide) (fun K hK=>?_);refine box_step ?hg (N:=7) ?hd (cs:=#[.int .i64 0,.int .i64 0]) (t:=35) ?hr ?_;(case hd=>rfl);(case hg=>rfl);(case hr=>first|(go_simp;done)|(go_simp;rfl));intro gb105 hg w35 hbox hb;have n0_:=aM (blk_below (g:=gb101) (o:= .cells #[.int .i64 0,.int .i64 0] 35 (0,0)) (by (with_reducible repeat (first|apply Qe|apply Qf|apply Qd));exact BK101.out) hb);have n1_:=aM (Qi (by repeat (first|(with_reducible first|exact HB.out|apply Qc|apply Qa|apply Qb|refine Qg ?_ GE101.out)|exact HB.out)) hb);have n2_:=aM (hbox);have n3_:=aM ((by rw [hg];exact (Qj (by repeat (first|(with_reducible first|exact HB.out|apply Qc|apply Qa|apply Qb|refine Qg ?_ GE101.out)|exact HB.out))):w.heap.size≤gb105));have n4_:=aM ((by rw [hg];exact (Qj (by repeat (first|(with_reducible first|exact HB.out|apply Qc|apply Qa|apply Qb|refine Qg ?_ GE101.out)|exact HB.out))):w.heap.size≤gb105));have n5_:=aM ((by rw [hg];exact Nat.ne_of_lt (blk_lt (g:=gb101) (o:= .cells #[.int .i64 0,.int .i64 0] 35 (0,0)) (by (with_reducible repeat (first|apply Qe|apply Qf|apply Qd));exact BK101.out)):gb101≠gb105));have n6_:=aM ((by rw [hg];exact Nat.ne_of_gt (blk_lt (g:=gb101) (o:= .cells #[.int .i64 0,.int .i64 0] 35 (0,0)) (by (with_reducible repeat (first|apply Qe|apply Qf|apply Qd));exact BK101.out)):gb105≠gb101));clear BK101;clear HB;have BK101:=n0_;have HB:=n1_;have BK105:=n2_;have GW105:=n3_;have GE105:=n4_;have NB101_105:=n5_;have NB105_101:=n6_;clear n0_ n1_ n2_ n3_ n4_ n5_ n6_;clear hb hbox hg;refine hK.out _ _ trivial (fun hHeld=>?_);clear hK K;refine norm_ (a':=?_) ?_ ?_
     rotate_left
     ·show Act.put _ (some 7) _=_
      simp only [Act.put,aA,aB,aC,i64_w,i32_w]
      rfl
     refine one_ (i:=8) (N:=none) #[true,true,true,true,true,true,true,true,true] rfl rfl (one_of HT_.out (by kernel_rfl)) (by decide) (fun K hK=>?_);have hs36:w35.cell? ⟨gb105,0,none⟩=some (.int .i64 0):=(blk_cell BK105.out 0).trans rfl;have hfs36:=Qk BK105.out 0;have hns36_0:=NB101_105.out;have hms36_0:=NB105_101.out;have hs37:w35.cell? ⟨gb105,1,none⟩=some (.int .i64 0):=(blk_cell BK105.out 1).trans rfl;have hfs37:=Qk BK105.out 1;have hns37_0:=NB101_105.out;have hms37_0:=NB105_101.out;refine skip_ (w1:=?_) (by rfl) rfl ?_ ?_
     rotate_left
     ·go_simp
      rfl
     refine hK.out _ _ trivial (fun hHeld=>?_);clear hK K;refine done_ (done_of HT_.out (by kernel_rfl)) ?_;have hnb38:=NB105_101.out;have hnc38:=NB101_105.out;have hcz39_0:w35.cell? ⟨gb105,0,none⟩=some (.int .i64 0):=(blk_cell BK105.out 0).trans rfl;have hcz39_1:w35.cell? ⟨gb105,1,none⟩=some (.int .i64 0):=(blk_cell BK105.out 1).trans rfl;have hfz39_0:=Qk BK105.out 0;have hfz39_1:=Qk BK105.out 1
     try go_wp2_with (first|((with_reducible refine Qh (f:=206) rfl ?_);refine goesL_ (some 23) rfl rfl Try.func206 (by kernel_rfl) rfl #[.agg #[.int .i64 (wrap64 (Int.tdiv a0 t102)),.int .i64 (wrap64 (Int.tdiv a1 t102))]] rfl (by (try simp only [aD,aE,aF]);first|done|rfl|(simp only [aG,aH];rfl)) ?_;(with_reducible refine (impl_GoodFrac.calls k (wrap64 (Int.tdiv a0 t102)) (wrap64 (Int.tdiv a1 t102)) true _ A30.out).mono ?_);rintro e w40 ⟨rfl,hb⟩;refine ⟨_,rfl,?_⟩;have n0_:=aM (blk_below (g:=gb101) (o:= .cells #[.int .i64 0,.int .i64 0] 35 (0,0)) (by (with_reducible repeat (first|apply Qe|apply Qf|apply Qd));refine blk_far ?_ NB101_105.out _;(with_reducible repeat (first|apply Qe|apply Qf|apply Qd));refine blk_far ?_ NB101_105.out _;(with_reducible repeat (first|apply Qe|apply Qf|apply Qd));exact BK101.out) hb);have n1_:=aM (blk_below (g:=gb105) (o:= .cells #[.int .i64 (wrap64 (Int.tdiv a0 t102)),.int .i64 (wrap64 (Int.tdiv a1 t102))] 35 (0,0)) (by (with_reducible repeat (first|apply Qe|apply Qf|apply Qd));refine blk_put (cs:=#[.int .i64 (wrap64 (Int.tdiv a0 t102)),.int .i64 0]) ?_ 1 _ rfl;(with_reducible repeat (first|apply Qe|apply Qf|apply Qd));refine blk_put (cs:=#[.int .i64 0,.int .i64 0]) ?_ 0 _ rfl;(with_reducible repeat (first|apply Qe|apply Qf|apply Qd));exact BK105.out) hb);have n2_:=aM (Qi (by repeat (first|(with_reducible first|exact HB.out|apply Qc|apply Qa|apply Qb|refine Qg ?_ GE101.out|refine Qg ?_ GE105.out)|exact HB.out)) hb);clear BK101;clear BK105;clear HB;have BK101:=n0_;have BK105:=n1_;have HB:=n2_;clear n0_ n1_ n2_;(try clear hb);(try clear hb2);(try clear hk);(try clear hi);have hcz41_0:w40.cell? ⟨gb105,0,none⟩=some (.int .i64 (wrap64 (Int.tdiv a0 t102))):=(blk_cell BK105.out 0).trans rfl;have hcz41_1:w40.cell? ⟨gb105,1,none⟩=some (.int .i64 (wrap64 (Int.tdiv a1 t102))):=(blk_cell BK105.out 1).trans rfl;have hfz41_0:=Qk BK105.out 0;have hfz41_1:=Qk BK105.out 1;have hcz42_0:w40.cell? ⟨gb101,0,none⟩=some (.int .i64 0):=(blk_cell BK101.out 0).trans rfl;have hcz42_1:w40.cell? ⟨gb101,1,none⟩=some (.int .i64 0):=(blk_cell BK101.out 1).trans rfl;have hfz42_0:=Qk BK101.out 0;have hfz42_1:=Qk BK101.out 1))
     refine bodyPost_ret (results_ct rfl _ _ gb101 35 #[.int .i64 (wrap64 (Int.tdiv a0 t102)),.int .i64 (wrap64 (Int.tdiv a1 t102))] (0,0) _ rfl (by (with_reducible repeat (first|apply Qe|apply Qf|apply Qd));refine blk_put (cs:=#[.int .i64 (wrap64 (Int.tdiv a0 t102)),.int .i64 0]) ?_ 1 _ rfl;(with_reducible repeat (first|apply Qe|apply Qf|apply Qd));refine blk_put (cs:=#[.int .i64 0,.int .i64 0]) ?_ 0 _ rfl;(with_reducible repeat (first|apply Qe|apply Qf|apply Qd));exact BK101.out) Try.underlying35 rfl (by kernel_rfl)) rfl ?_;exact ⟨by first|rfl|(simp [errW_none,errW_some] <;> rfl)|(simp [*,errW_none,errW_some] <;> rfl),by repeat (first|(with_reducible first|exact HB.out|apply Qc|apply Qa|apply Qb|refine Qg ?_ GE101.out|refine Qg ?_ GE105.out)|exact HB.out)⟩
    ·replace c31:=Bool.eq_false_iff.mpr c31;subst c31;have H1:(some (0,0,false))=some (r1,r2,r3):=by rw [if_neg (show ¬ (false=true) by decide)] at H;exact H
     clear H;have H:=H1;clear H1;simp only [Option.some.injEq,Prod.mk.injEq] at H;obtain ⟨rfl,rfl,rfl⟩:=H;go_enter Try.func131,Try.ntmps131
     try go_wp2_with (first|((with_reducible refine gate_dst (N:=4) rfl ?_);refine box_event ?hg (N:=4) ?hd (cs:=#[.int .i64 0,.int .i64 0]) (t:=35) ?hr ?_;(case hd=>rfl);(case hg=>rfl);(case hr=>first|(go_simp;done)|(go_simp;rfl));intro gb101 hg w43 hbox hb;have n0_:=aM (Qi (by repeat (first|(with_reducible first|exact HB.out|apply Qc|apply Qa|apply Qb)|exact HB.out)) hb);have n1_:=aM (hbox);have n2_:=aM ((by rw [hg];exact (Qj (by repeat (first|(with_reducible first|exact HB.out|apply Qc|apply Qa|apply Qb)|exact HB.out))):w.heap.size≤gb101));have n3_:=aM ((by rw [hg];exact (Qj (by repeat (first|(with_reducible first|exact HB.out|apply Qc|apply Qa|apply Qb)|exact HB.out))):w.heap.size≤gb101));clear HB;have HB:=n0_;have BK101:=n1_;have GW101:=n2_;have GE101:=n3_;clear n0_ n1_ n2_ n3_;clear hb hbox hg)|((with_reducible refine Qh (f:=216) rfl ?_);refine goesL_ (some 10) rfl rfl Try.func216 (by kernel_rfl) rfl #[.int .i64 a0,.int .i64 a1] rfl (by (try simp only [aD,aE,aF]);first|done|rfl|(simp only [aG,aH];rfl)) ?_;(with_reducible refine (impl_divisor.calls k a0 a1 t102 _ A3.out).mono ?_);rintro e w44 ⟨rfl,hb⟩;refine ⟨_,rfl,?_⟩;have n0_:=aM (blk_below (g:=gb101) (o:= .cells #[.int .i64 0,.int .i64 0] 35 (0,0)) (by (with_reducible repeat (first|apply Qe|apply Qf|apply Qd));exact BK101.out) hb);have n1_:=aM (Qi (by repeat (first|(with_reducible first|exact HB.out|apply Qc|apply Qa|apply Qb|refine Qg ?_ GE101.out)|exact HB.out)) hb);clear BK101;clear HB;have BK101:=n0_;have HB:=n1_;clear n0_ n1_;(try clear hb);(try clear hb2);(try clear hk);(try clear hi)))
     have n0_:=aM (Qf BK101.out);have n1_:=aM (Qb HB.out);clear BK101;clear HB;have BK101:=n0_;have HB:=n1_;clear n0_ n1_;refine start_ (n:=9) (S:=fun w'=>True) (ds:=[]) #[false,false,false,false,false,false,false,false,false] (by kernel_rfl) rfl rfl trivial (fun hHeld=>?_);refine with_tabW impl_lowest.tab4 impl_lowest.bits4 (fun HT_ HW_=>?_)
     generalize w44.drew=w45 at BK101 HB hHeld ⊢
     refine pure_ (i:=0) (N:=some 15) (v:=?_) (a':=?_) #[true,false,false,false,false,false,false,false,false] rfl rfl (any_of HT_.out (by kernel_rfl)) (fun _ _ _ h=>h) (Or.inl ⟨by rfl,?_⟩) ?_ ?_
     rotate_left
     ·intro w'
      go_simp
      with_reducible rfl
     rotate_left
     ·simp only [Act.put,aA,aB,aC,i64_w,i32_w]
      rfl
     refine pure_ (i:=1) (N:=some 16) (v:=?_) (a':=?_) #[true,true,false,false,false,false,false,false,false] rfl rfl (any_of HT_.out (by kernel_rfl)) (fun _ _ _ h=>h) (Or.inl ⟨by rfl,?_⟩) ?_ ?_
     rotate_left
     ·intro w'
      go_simp
      with_reducible rfl
     rotate_left
     ·simp only [Act.put,aA,aB,aC,i64_w,i32_w]
      rfl
     refine pure_ (i:=2) (N:=some 17) (v:=?_) (a':=?_) #[true,true,true,false,false,false,false,false,false] rfl rfl (any_of HT_.out (by kernel_rfl)) (fun _ _ _ h=>h) (Or.inl ⟨by rfl,?_⟩) ?_ ?_
     rotate_left
     ·intro w'
      go_simp
      with_reducible rfl
     rotate_left
     ·simp only [Act.put,aA,aB,aC,i64_w,i32_w]
      rfl
     refine pure_ (i:=3) (N:=some 18) (v:=?_) (a':=?_) #[true,true,true,true,false,false,false,false,false] rfl rfl (any_of HT_.out (by kernel_rfl)) (fun _ _ _ h=>h) (Or.inl ⟨by rfl,?_⟩) ?_ ?_
     rotate_left
     ·intro w'
      go_simp
      with_reducible rfl
     rotate_left
     ·simp only [Act.put,aA,aB,aC,i64_w,i32_w]
      rfl
     refine pure_ (i:=4) (N:=some 19) (v:=?_) (a':=?_) #[true,true,true,true,true,false,false,false,false] rfl rfl (any_of HT_.out (by kernel_rfl)) (fun _ _ _ h=>h) (Or.inl ⟨by rfl,?_⟩) ?_ ?_
     rotate_left
     ·intro w'
      go_simp
      with_reducible rfl
     rotate_left
     ·simp only [Act.put,aA,aB,aC,i64_w,i32_w]
      rfl
     refine pure_ (i:=5) (N:=some 20) (v:=?_) (a':=?_) #[true,true,true,true,true,true,false,false,false] rfl rfl (any_of HT_.out (by kernel_rfl)) (fun _ _ _ h=>h) (Or.inl ⟨by rfl,?_⟩) ?_ ?_
     rotate_left
     ·intro w'
      go_simp
      with_reducible rfl
     rotate_left
     ·simp only [Act.put,aA,aB,aC,i64_w,i32_w]
      rfl
     refine pure_ (i:=6) (N:=some 21) (v:=?_) (a':=?_) #[true,true,true,true,true,true,true,false,false] rfl rfl (any_of HT_.out (by kernel_rfl)) (fun _ _ _ h=>h) (Or.inl ⟨by rfl,?_⟩) ?_ ?_
     rotate_left
     ·intro w'
      go_simp
      with_reducible rfl
     rotate_left
     ·simp only [Act.put,aA,aB,aC,i64_w,i32_w]
      rfl
     refine one_ (i:=7) (N:=some 7) #[true,true,true,true,true,true,true,true,false] rfl rfl (one_of HT_.out (by kernel_rfl)) (by decide) (fun K hK=>?_);refine box_step ?hg (N:=7) ?hd (cs:=#[.int .i64 0,.int .i64 0]) (t:=35) ?hr ?_;(case hd=>rfl);(case hg=>rfl);(case hr=>first|(go_simp;done)|(go_simp;rfl));intro gb105 hg w46 hbox hb;have n0_:=aM (blk_below (g:=gb101) (o:= .cells #[.int .i64 0,.int .i64 0] 35 (0,0)) (by (with_reducible repeat (first|apply Qe|apply Qf|apply Qd));exact BK101.out) hb);have n1_:=aM (Qi (by repeat (first|(with_reducible first|exact HB.out|apply Qc|apply Qa|apply Qb|refine Qg ?_ GE101.out)|exact HB.out)) hb);have n2_:=aM (hbox);have n3_:=aM ((by rw [hg];exact (Qj (by repeat (first|(with_reducible first|exact HB.out|apply Qc|apply Qa|apply Qb|refine Qg ?_ GE101.out)|exact HB.out))):w.heap.size≤gb105));have n4_:=aM ((by rw [hg];exact (Qj (by repeat (first|(with_reducible first|exact HB.out|apply Qc|apply Qa|apply Qb|refine Qg ?_ GE101.out)|exact HB.out))):w.heap.size≤gb105));have n5_:=aM ((by rw [hg];exact Nat.ne_of_lt (blk_lt (g:=gb101) (o:= .cells #[.int .i64 0,.int .i64 0] 35 (0,0)) (by (with_reducible repeat (first|apply Qe|apply Qf|apply Qd));exact BK101.out)):gb101≠gb105));have n6_:=aM ((by rw [hg];exact Nat.ne_of_gt (blk_lt (g:=gb101) (o:= .cells #[.int .i64 0,.int .i64 0] 35 (0,0)) (by (with_reducible repeat (first|apply Qe|apply Qf|apply Qd));exact BK101.out)):gb105≠gb101));clear BK101;clear HB;have BK101:=n0_;have HB:=n1_;have BK105:=n2_;have GW105:=n3_;have GE105:=n4_;have NB101_105:=n5_;have NB105_101:=n6_;clear n0_ n1_ n2_ n3_ n4_ n5_ n6_;clear hb hbox hg;refine hK.out _ _ trivial (fun hHeld=>?_);clear hK K;refine norm_ (a':=?_) ?_ ?_
     rotate_left
     ·show Act.put _ (some 7) _=_
      simp only [Act.put,aA,aB,aC,i64_w,i32_w]
      rfl
     refine one_ (i:=8) (N:=none) #[true,true,true,true,true,true,true,true,true] rfl rfl (one_of HT_.out (by kernel_rfl)) (by decide) (fun K hK=>?_);have hs47:w46.cell? ⟨gb105,0,none⟩=some (.int .i64 0):=(blk_cell BK105.out 0).trans rfl;have hfs47:=Qk BK105.out 0;have hns47_0:=NB101_105.out;have hms47_0:=NB105_101.out;have hs48:w46.cell? ⟨gb105,1,none⟩=some (.int .i64 0):=(blk_cell BK105.out 1).trans rfl;have hfs48:=Qk BK105.out 1;have hns48_0:=NB101_105.out;have hms48_0:=NB105_101.out;refine skip_ (w1:=?_) (by rfl) rfl ?_ ?_
     rotate_left
     ·go_simp
      rfl
     refine hK.out _ _ trivial (fun hHeld=>?_);clear hK K;refine done_ (done_of HT_.out (by kernel_rfl)) ?_;have hnb49:=NB105_101.out;have hnc49:=NB101_105.out;have hcz50_0:w46.cell? ⟨gb105,0,none⟩=some (.int .i64 0):=(blk_cell BK105.out 0).trans rfl;have hcz50_1:w46.cell? ⟨gb105,1,none⟩=some (.int .i64 0):=(blk_cell BK105.out 1).trans rfl;have hfz50_0:=Qk BK105.out 0;have hfz50_1:=Qk BK105.out 1
     try go_wp2_with (first|((with_reducible refine Qh (f:=206) rfl ?_);refine goesL_ (some 23) rfl rfl Try.func206 (by kernel_rfl) rfl #[.agg #[.int .i64 (wrap64 (Int.tdiv a0 t102)),.int .i64 (wrap64 (Int.tdiv a1 t102))]] rfl (by (try simp only [aD,aE,aF]);first|done|rfl|(simp only [aG,aH];rfl)) ?_;(with_reducible refine (impl_GoodFrac.calls k (wrap64 (Int.tdiv a0 t102)) (wrap64 (Int.tdiv a1 t102)) false _ A30.out).mono ?_);rintro e w51 ⟨rfl,hb⟩;refine ⟨_,rfl,?_⟩;have n0_:=aM (blk_below (g:=gb101) (o:= .cells #[.int .i64 0,.int .i64 0] 35 (0,0)) (by (with_reducible repeat (first|apply Qe|apply Qf|apply Qd));refine blk_far ?_ NB101_105.out _;(with_reducible repeat (first|apply Qe|apply Qf|apply Qd));refine blk_far ?_ NB101_105.out _;(with_reducible repeat (first|apply Qe|apply Qf|apply Qd));exact BK101.out) hb);have n1_:=aM (blk_below (g:=gb105) (o:= .cells #[.int .i64 (wrap64 (Int.tdiv a0 t102)),.int .i64 (wrap64 (Int.tdiv a1 t102))] 35 (0,0)) (by (with_reducible repeat (first|apply Qe|apply Qf|apply Qd));refine blk_put (cs:=#[.int .i64 (wrap64 (Int.tdiv a0 t102)),.int .i64 0]) ?_ 1 _ rfl;(with_reducible repeat (first|apply Qe|apply Qf|apply Qd));refine blk_put (cs:=#[.int .i64 0,.int .i64 0]) ?_ 0 _ rfl;(with_reducible repeat (first|apply Qe|apply Qf|apply Qd));exact BK105.out) hb);have n2_:=aM (Qi (by repeat (first|(with_reducible first|exact HB.out|apply Qc|apply Qa|apply Qb|refine Qg ?_ GE101.out|refine Qg ?_ GE105.out)|exact HB.out)) hb);clear BK101;clear BK105;clear HB;have BK101:=n0_;have BK105:=n1_;have HB:=n2_;clear n0_ n1_ n2_;(try clear hb);(try clear hb2);(try clear hk);(try clear hi);have hcz52_0:w51.cell? ⟨gb101,0,none⟩=some (.int .i64 0):=(blk_cell BK101.out 0).trans rfl;have hcz52_1:w51.cell? ⟨gb101,1,none⟩=some (.int .i64 0):=(blk_cell BK101.out 1).trans rfl;have hfz52_0:=Qk BK101.out 0;have hfz52_1:=Qk BK101.out 1))
     refine bodyPost_ret (results_ct rfl _ _ gb101 35 #[.int .i64 0,.int .i64 0] (0,0) _ rfl (by (with_reducible repeat (first|apply Qe|apply Qf|apply Qd));refine blk_put (cs:=#[.int .i64 0,.int .i64 0]) ?_ 1 _ rfl;(with_reducible repeat (first|apply Qe|apply Qf|apply Qd));refine blk_put (cs:=#[.int .i64 0,.int .i64 0]) ?_ 0 _ rfl;(with_reducible repeat (first|apply Qe|apply Qf|apply Qd));exact BK101.out) Try.underlying35 rfl (by kernel_rfl)) rfl ?_;exact ⟨by first|rfl|(simp [errW_none,errW_some] <;> rfl)|(simp [*,errW_none,errW_some] <;> rfl),by repeat (first|(with_reducible first|exact HB.out|apply Qc|apply Qa|apply Qb|refine Qg ?_ GE101.out|refine Qg ?_ GE105.out)|exact HB.out)⟩

def impl_gain.f (k:Nat) (a0:Int) (a1:Int):Option (Int×Int):=(impl_lowest.f k a0 (wrap64 (a1 * (wrap64 (a1+1))))).bind fun bt102=>(some (bt102.1,bt102.2.1))
set_option maxHeartbeats 8000000 in
set_option maxRecDepth 100000 in
theorem impl_gain.calls (k:Nat) (a0:Int) (a1:Int) (r1:Int) (r2:Int) (w:World) (h:impl_gain.f k a0 a1=some (r1,r2)) :
    Calls Try.prog 230 #[.int .i64 a0,.int .i64 a1] w fun e w'=>e= .returned (.agg #[.int .i64 r1,.int .i64 r2])∧Below w.heap.size w w':=by
  have hu35:=Try.underlying35;have HB:=aM (Below.refl w.heap.size w);have H:((impl_lowest.f k a0 (wrap64 (a1 * (wrap64 (a1+1))))).bind fun bt102=>(some (bt102.1,bt102.2.1)))=some (r1,r2):=h;clear h;replace H:=Option.bind_eq_some_iff.mp H;obtain ⟨⟨t102,t103,t104⟩,A30,H⟩:=H;replace H:(some (t102,t103))=some (r1,r2):=H;have A3:=aM A30;clear A30;simp only [Option.some.injEq,Prod.mk.injEq] at H;obtain ⟨rfl,rfl⟩:=H;go_enter Try.func230,Try.ntmps230;go_wp2_with (first|((with_reducible refine gate_dst (N:=4) rfl ?_);refine box_event ?hg (N:=4) ?hd (cs:=#[.int .i64 0,.int .i64 0]) (t:=35) ?hr ?_;(case hd=>rfl);(case hg=>rfl);(case hr=>first|(go_simp;done)|(go_simp;rfl));intro gb101 hg w4 hbox hb;have n0_:=aM (Qi (by repeat (first|(with_reducible first|exact HB.out|apply Qc|apply Qa|apply Qb)|exact HB.out)) hb);have n1_:=aM (hbox);have n2_:=aM ((by rw [hg];exact (Qj (by repeat (first|(with_reducible first|exact HB.out|apply Qc|apply Qa|apply Qb)|exact HB.out))):w.heap.size≤gb101));have n3_:=aM ((by rw [hg];exact (Qj (by repeat (first|(with_reducible first|exact HB.out|apply Qc|apply Qa|apply Qb)|exact HB.out))):w.heap.size≤gb101));clear HB;have HB:=n0_;have BK101:=n1_;have GW101:=n2_;have GE101:=n3_;clear n0_ n1_ n2_ n3_;clear hb hbox hg)|((with_reducible refine Qh (f:=131) rfl ?_);refine goesL_ (some 13) rfl rfl Try.func131 (by kernel_rfl) rfl #[.int .i64 a0,.int .i64 (wrap64 (a1 * (wrap64 (a1+1))))] rfl (by (try simp only [aD,aE,aF]);first|done|rfl|(simp only [aG,aH];rfl)) ?_;(with_reducible refine (impl_lowest.calls k a0 (wrap64 (a1 * (wrap64 (a1+1)))) t102 t103 t104 _ A3.out).mono ?_);rintro e w5 ⟨rfl,hb⟩;refine ⟨_,rfl,?_⟩;have n0_:=aM (blk_below (g:=gb101) (o:= .cells #[.int .i64 0,.int .i64 0] 35 (0,0)) (by (with_reducible repeat (first|apply Qe|apply Qf|apply Qd));exact BK101.out) hb);have n1_:=aM (Qi (by repeat (first|(with_reducible first|exact HB.out|apply Qc|apply Qa|apply Qb|refine Qg ?_ GE101.out)|exact HB.out)) hb);clear BK101;clear HB;have BK101:=n0_;have HB:=n1_;clear n0_ n1_;(try clear hb);(try clear hb2);(try clear hk);(try clear hi))|((with_reducible refine gate_dst (N:=5) rfl ?_);refine box_event ?hg (N:=5) ?hd (cs:=#[.int .i64 0,.int .i64 0]) (t:=35) ?hr ?_;(case hd=>rfl);(case hg=>rfl);(case hr=>first|(go_simp;done)|(go_simp;rfl));intro gb105 hg w6 hbox hb;have n0_:=aM (blk_below (g:=gb101) (o:= .cells #[.int .i64 0,.int .i64 0] 35 (0,0)) (by (with_reducible repeat (first|apply Qe|apply Qf|apply Qd));exact BK101.out) hb);have n1_:=aM (Qi (by repeat (first|(with_reducible first|exact HB.out|apply Qc|apply Qa|apply Qb|refine Qg ?_ GE101.out)|exact HB.out)) hb);have n2_:=aM (hbox);have n3_:=aM ((by rw [hg];exact (Qj (by repeat (first|(with_reducible first|exact HB.out|apply Qc|apply Qa|apply Qb|refine Qg ?_ GE101.out)|exact HB.out))):w.heap.size≤gb105));have n4_:=aM ((by rw [hg];exact (Qj (by repeat (first|(with_reducible first|exact HB.out|apply Qc|apply Qa|apply Qb|refine Qg ?_ GE101.out)|exact HB.out))):w.heap.size≤gb105));have n5_:=aM ((by rw [hg];exact Nat.ne_of_lt (blk_lt (g:=gb101) (o:= .cells #[.int .i64 0,.int .i64 0] 35 (0,0)) (by (with_reducible repeat (first|apply Qe|apply Qf|apply Qd));exact BK101.out)):gb101≠gb105));have n6_:=aM ((by rw [hg];exact Nat.ne_of_gt (blk_lt (g:=gb101) (o:= .cells #[.int .i64 0,.int .i64 0] 35 (0,0)) (by (with_reducible repeat (first|apply Qe|apply Qf|apply Qd));exact BK101.out)):gb105≠gb101));clear BK101;clear HB;have BK101:=n0_;have HB:=n1_;have BK105:=n2_;have GW105:=n3_;have GE105:=n4_;have NB101_105:=n5_;have NB105_101:=n6_;clear n0_ n1_ n2_ n3_ n4_ n5_ n6_;clear hb hbox hg;have hnb7:=NB105_101.out;have hnc7:=NB101_105.out;have hcz8_0:w6.cell? ⟨gb105,0,none⟩=some (.int .i64 0):=(blk_cell BK105.out 0).trans rfl;have hcz8_1:w6.cell? ⟨gb105,1,none⟩=some (.int .i64 0):=(blk_cell BK105.out 1).trans rfl;have hfz8_0:=Qk BK105.out 0;have hfz8_1:=Qk BK105.out 1;have hcz9_0:w6.cell? ⟨gb101,0,none⟩=some (.int .i64 0):=(blk_cell BK101.out 0).trans rfl;have hcz9_1:w6.cell? ⟨gb101,1,none⟩=some (.int .i64 0):=(blk_cell BK101.out 1).trans rfl;have hfz9_0:=Qk BK101.out 0;have hfz9_1:=Qk BK101.out 1))
  refine bodyPost_ret (results_cell_row rfl _ _ gb101 35 #[.int .i64 t102,.int .i64 t103] (0,0) _ rfl (by (with_reducible repeat (first|apply Qe|apply Qf|apply Qd));refine blk_put (cs:=#[.int .i64 t102,.int .i64 0]) ?_ 1 _ rfl;(with_reducible repeat (first|apply Qe|apply Qf|apply Qd));refine blk_put (cs:=#[.int .i64 0,.int .i64 0]) ?_ 0 _ rfl;(with_reducible repeat (first|apply Qe|apply Qf|apply Qd));refine blk_far ?_ NB101_105.out _;(with_reducible repeat (first|apply Qe|apply Qf|apply Qd));refine blk_far ?_ NB101_105.out _;(with_reducible repeat (first|apply Qe|apply Qf|apply Qd));exact BK101.out) Try.underlying35 rfl (by kernel_rfl)) rfl ?_;exact ⟨by first|rfl|(simp [errW_none,errW_some] <;> rfl)|(simp [*,errW_none,errW_some] <;> rfl),by repeat (first|(with_reducible first|exact HB.out|apply Qc|apply Qa|apply Qb|refine Qg ?_ GE101.out|refine Qg ?_ GE105.out)|exact HB.out)⟩

def impl_next.l0:Nat→List Int→List Int→Int→Int→Int→Option (Int)
  |0,_,_,_,_,_=>none
  |k+1,x0,x1,x5,x8,x9=>if x9<x8 then (if 0≤x9 then (if x9<(x0.length:Int) then (if x9<(x1.length:Int) then ((impl_gain.f k (rd x0 x9) (rd x1 x9)).bind fun bt103=>(if 0≤x5 then (if x5<(x0.length:Int) then (if x5<(x1.length:Int) then ((impl_gain.f k (rd x0 x5) (rd x1 x5)).bind fun bt107=>((impl_compareFracs.f bt103.1 bt103.2 bt107.1 bt107.2).bind fun t109=>(if t109 > 0 then (impl_next.l0 k x0 x1 x9 x8 (wrap64 (x9+1))) else (impl_next.l0 k x0 x1 x5 x8 (wrap64 (x9+1)))))) else (none)) else (none)) else (none))) else (none)) else (none)) else (none)) else (some x5)
def impl_next.f (k:Nat) (l0:List Int) (l1:List Int):Option (Int):=impl_next.l0 k l0 l1 0 (l0.length:Int) 0
def impl_next.T5:Bool×List (List Nat×List Nat):=(true,[([],[]),([],[]),([0,1],[0,1]),([2],[2]),([],[]),([],[]),([4,5],[4,5]),([6],[6]),([3,7],[3,7]),([],[]),([],[]),([9,10],[9,10]),([11],[11]),([],[]),([],[]),([13,14],[13,14]),([15],[15]),([12,16,8],[12,16]),([8,17,17],[8,17]),([18],[18])])
def impl_next.B5:List Nat:=[0,0,3,7,0,0,48,112,255,0,0,1536,3584,0,0,24576,57344,131071,262143,524287]
theorem impl_next.tab5:rtab .any (opsOf Try.f200 5)=impl_next.T5:=by kernel_rfl
theorem impl_next.bits5:waitsOk impl_next.T5.2 impl_next.B5=true:=by kernel_rfl
set_option maxHeartbeats 8000000 in
set_option maxRecDepth 100000 in
theorem impl_next.calls (k:Nat) (A0:Option Addr) (c0:Nat) (l0:List Int) (A1:Option Addr) (c1:Nat) (l1:List Int) (r:Int) (w:World) (hr0:Kd.C (Kd.int .i64) w A0 l0.length l0) (hc0:l0.length≤c0) (hr1:Kd.C (Kd.int .i64) w A1 l1.length l1) (hc1:l1.length≤c1) (h:impl_next.f k l0 l1=some r) :
    Calls Try.prog 200 #[.slice A0 l0.length c0,.slice A1 l1.length c1] w fun e w'=>e= .returned (.int .i64 r)∧Below w.heap.size w w':=by
  have HR0:=aM hr0;have HC0:=aM hc0;clear hr0 hc0;have HR1:=aM hr1;have HC1:=aM hc1;clear hr1 hc1;have HB:=aM (Below.refl w.heap.size w);have H:(impl_next.l0 k l0 l1 0 (l0.length:Int) 0)=some r:=h;clear h;have H':=aM H;clear H;go_enter Try.func200,Try.ntmps200;go_wp2;go_loopg [5,9] k (fun kq v5 v9 w'=>∃ (x5_1:Int) (x9_1:Int),v5= .int .i64 x5_1∧v9= .int .i64 x9_1∧Aside0 (impl_next.l0 kq l0 l1 x5_1 (l0.length:Int) x9_1=some r)∧Aside0 (kq≤k)∧Aside0 (Below w.heap.size w w'))
  case atStart=>exact ⟨(0),(0),(by first|rfl|(simp;done)|(simp [*];done)),(by first|rfl|(simp;done)|(simp [*];done)),H',⟨Nat.le_refl _⟩,⟨by repeat (first|(with_reducible first|exact HB.out|apply Qc|apply Qa|apply Qb)|exact HB.out)⟩⟩
  case round=>
   clear H';(try clear c1);(try clear c2);(try clear p2);obtain ⟨x5_1,x9_1,rfl,rfl,HA,HK1,HB⟩:=hrel
   cases gk with
   |zero=>exact absurd HA.out (by simp [impl_next.l0])
   |succ k1=>
    have H:=HA.out;clear HA;simp only [impl_next.l0] at H;by_cases c3:x9_1<(l0.length:Int)
    ·rw [if_pos c3] at H;have c3b0:decide (x9_1<(l0.length:Int))=true:=decide_eq_true c3;clear c3;by_cases c4:0≤x9_1
     ·rw [if_pos c4] at H;have c4b0:decide (0≤x9_1)=true:=decide_eq_true c4;clear c4;by_cases c5:x9_1<(l0.length:Int)
      ·rw [if_pos c5] at H;have c5b0:decide (x9_1<(l0.length:Int))=true:=decide_eq_true c5;clear c5;by_cases c6:x9_1<(l1.length:Int)
       ·rw [if_pos c6] at H;have c6b0:decide (x9_1<(l1.length:Int))=true:=decide_eq_true c6;clear c6;replace H:=Option.bind_eq_some_iff.mp H;obtain ⟨⟨t103,t104⟩,A70,H⟩:=H;replace H:(if 0≤x5_1 then (if x5_1<(l0.length:Int) then (if x5_1<(l1.length:Int) then ((impl_gain.f k1 (rd l0 x5_1) (rd l1 x5_1)).bind fun bt107=>((impl_compareFracs.f t103 t104 bt107.1 bt107.2).bind fun t109=>(if t109 > 0 then (impl_next.l0 k1 l0 l1 x9_1 (l0.length:Int) (wrap64 (x9_1+1))) else (impl_next.l0 k1 l0 l1 x5_1 (l0.length:Int) (wrap64 (x9_1+1)))))) else (none)) else (none)) else (none))=some r:=H;have A7:=aM A70;clear A70;by_cases c8:0≤x5_1
        ·rw [if_pos c8] at H;have c8b0:decide (0≤x5_1)=true:=decide_eq_true c8;clear c8;by_cases c9:x5_1<(l0.length:Int)
         ·rw [if_pos c9] at H;have c9b0:decide (x5_1<(l0.length:Int))=true:=decide_eq_true c9;clear c9;by_cases c10:x5_1<(l1.length:Int)
          ·rw [if_pos c10] at H;have c10b0:decide (x5_1<(l1.length:Int))=true:=decide_eq_true c10;clear c10;replace H:=Option.bind_eq_some_iff.mp H;obtain ⟨⟨t107,t108⟩,A110,H⟩:=H;replace H:((impl_compareFracs.f t103 t104 t107 t108).bind fun t109=>(if t109 > 0 then (impl_next.l0 k1 l0 l1 x9_1 (l0.length:Int) (wrap64 (x9_1+1))) else (impl_next.l0 k1 l0 l1 x5_1 (l0.length:Int) (wrap64 (x9_1+1)))))=some r:=H;have A11:=aM A110;clear A110;replace H:=Option.bind_eq_some_iff.mp H;obtain ⟨t109,A120,H⟩:=H;replace H:(if t109 > 0 then (impl_next.l0 k1 l0 l1 x9_1 (l0.length:Int) (wrap64 (x9_1+1))) else (impl_next.l0 k1 l0 l1 x5_1 (l0.length:Int) (wrap64 (x9_1+1))))=some r:=H;have A12:=aM A120;clear A120;by_cases c13:t109 > 0
           ·rw [if_pos c13] at H;have c13b0:decide (0<t109)=true:=decide_eq_true c13;clear c13;have H':=aM H;clear H
            try go_wp2
            have n0_:=aM (Qb HB.out);clear HB;have HB:=n0_;clear n0_;have p101:0≤(x9_1:Int):=of_decide_eq_true (by first|(with_reducible assumption)|assumption);have q101:x9_1<(l0.length:Int):=of_decide_eq_true (by first|(with_reducible assumption)|assumption);obtain ⟨ad101,e101,hx101_0⟩:=Kd.at_int HR0.out x9_1 p101 q101;have hw101_0:=hx101_0
            cases e101
            replace hx101_0:=(HB.out.cell (aI w _ hx101_0)).trans hx101_0;replace p101:=eq_true p101;replace q101:=eq_true q101;have p102:0≤(x9_1:Int):=of_decide_eq_true (by first|(with_reducible assumption)|assumption);have q102:x9_1<(l1.length:Int):=of_decide_eq_true (by first|(with_reducible assumption)|assumption);obtain ⟨ad102,e102,hx102_0⟩:=Kd.at_int HR1.out x9_1 p102 q102;have hw102_0:=hx102_0
            cases e102
            replace hx102_0:=(HB.out.cell (aI w _ hx102_0)).trans hx102_0;replace p102:=eq_true p102;replace q102:=eq_true q102;have p105:0≤(x5_1:Int):=of_decide_eq_true (by first|(with_reducible assumption)|assumption);have q105:x5_1<(l0.length:Int):=of_decide_eq_true (by first|(with_reducible assumption)|assumption);obtain ⟨ad105,e105,hx105_0⟩:=Kd.at_int HR0.out x5_1 p105 q105;have hw105_0:=hx105_0;obtain rfl:ad101=ad105:=(by injection e105);replace hx105_0:=(HB.out.cell (aI w _ hx105_0)).trans hx105_0;replace p105:=eq_true p105;replace q105:=eq_true q105;have p106:0≤(x5_1:Int):=of_decide_eq_true (by first|(with_reducible assumption)|assumption);have q106:x5_1<(l1.length:Int):=of_decide_eq_true (by first|(with_reducible assumption)|assumption);obtain ⟨ad106,e106,hx106_0⟩:=Kd.at_int HR1.out x5_1 p106 q106;have hw106_0:=hx106_0;obtain rfl:ad102=ad106:=(by injection e106);replace hx106_0:=(HB.out.cell (aI w _ hx106_0)).trans hx106_0;replace p106:=eq_true p106;replace q106:=eq_true q106;refine start_ (n:=20) (S:=fun w'=>w'.cell? (ad101.add (x9_1).toNat)=some (.int .i64 (rd l0 x9_1))∧w'.cell? (ad102.add (x9_1).toNat)=some (.int .i64 (rd l1 x9_1))∧w'.cell? (ad101.add (x5_1).toNat)=some (.int .i64 (rd l0 x5_1))∧w'.cell? (ad102.add (x5_1).toNat)=some (.int .i64 (rd l1 x5_1))) (ds:=[]) #[false,false,false,false,false,false,false,false,false,false,false,false,false,false,false,false,false,false,false,false] (by kernel_rfl) rfl rfl ⟨((HB.out.cell (aI w _ hw101_0)).trans hw101_0),((HB.out.cell (aI w _ hw102_0)).trans hw102_0),((HB.out.cell (aI w _ hw105_0)).trans hw105_0),((HB.out.cell (aI w _ hw106_0)).trans hw106_0)⟩ (fun hHeld=>?_);refine with_tabW impl_next.tab5 impl_next.bits5 (fun HT_ HW_=>?_)
            generalize wr.drew=w14 at HB hx101_0 hx102_0 hx105_0 hx106_0 hHeld ⊢
            refine pure_ (i:=0) (N:=some 12) (v:=?_) (a':=?_) #[true,false,false,false,false,false,false,false,false,false,false,false,false,false,false,false,false,false,false,false] rfl rfl (any_of HT_.out (by kernel_rfl)) (fun _ _ _ h=>h) (Or.inl ⟨by rfl,?_⟩) ?_ ?_
            rotate_left
            ·intro w'
             go_simp
             with_reducible rfl
            rotate_left
            ·simp only [Act.put,aA,aB,aC,i64_w,i32_w]
             rfl
            refine pure_ (i:=1) (N:=some 13) (v:=?_) (a':=?_) #[true,true,false,false,false,false,false,false,false,false,false,false,false,false,false,false,false,false,false,false] rfl rfl (any_of HT_.out (by kernel_rfl)) (fun _ _ _ h=>h) (Or.inl ⟨by rfl,?_⟩) ?_ ?_
            rotate_left
            ·intro w'
             go_simp
             with_reducible rfl
            rotate_left
            ·simp only [Act.put,aA,aB,aC,i64_w,i32_w]
             rfl
            refine pure_ (i:=2) (N:=some 14) (v:=?_) (a':=?_) #[true,true,true,false,false,false,false,false,false,false,false,false,false,false,false,false,false,false,false,false] rfl rfl (any_of HT_.out (by kernel_rfl)) (fun _ _ _ h=>h) (Or.inl ⟨by rfl,?_⟩) ?_ ?_
            rotate_left
            ·intro w'
             go_simp
             with_reducible rfl
            rotate_left
            ·simp only [Act.put,aA,aB,aC,i64_w,i32_w]
             rfl
            refine pure_ (i:=4) (N:=some 16) (v:=?_) (a':=?_) #[true,true,true,false,true,false,false,false,false,false,false,false,false,false,false,false,false,false,false,false] rfl rfl (any_of HT_.out (by kernel_rfl)) (fun _ _ _ h=>h) (Or.inl ⟨by rfl,?_⟩) ?_ ?_
            rotate_left
            ·intro w'
             go_simp
             with_reducible rfl
            rotate_left
            ·simp only [Act.put,aA,aB,aC,i64_w,i32_w]
             rfl
            refine pure_ (i:=5) (N:=some 17) (v:=?_) (a':=?_) #[true,true,true,false,true,true,false,false,false,false,false,false,false,false,false,false,false,false,false,false] rfl rfl (any_of HT_.out (by kernel_rfl)) (fun _ _ _ h=>h) (Or.inl ⟨by rfl,?_⟩) ?_ ?_
            rotate_left
            ·intro w'
             go_simp
             with_reducible rfl
            rotate_left
            ·simp only [Act.put,aA,aB,aC,i64_w,i32_w]
             rfl
            refine pure_ (i:=6) (N:=some 18) (v:=?_) (a':=?_) #[true,true,true,false,true,true,true,false,false,false,false,false,false,false,false,false,false,false,false,false] rfl rfl (any_of HT_.out (by kernel_rfl)) (fun _ _ _ h=>h) (Or.inl ⟨by rfl,?_⟩) ?_ ?_
            rotate_left
            ·intro w'
             go_simp
             with_reducible rfl
            rotate_left
            ·simp only [Act.put,aA,aB,aC,i64_w,i32_w]
             rfl
            refine pure_ (i:=9) (N:=some 21) (v:=?_) (a':=?_) #[true,true,true,false,true,true,true,false,false,true,false,false,false,false,false,false,false,false,false,false] rfl rfl (any_of HT_.out (by kernel_rfl)) (fun _ _ _ h=>h) (Or.inl ⟨by rfl,?_⟩) ?_ ?_
            rotate_left
            ·intro w'
             go_simp
             with_reducible rfl
            rotate_left
            ·simp only [Act.put,aA,aB,aC,i64_w,i32_w]
             rfl
            refine pure_ (i:=10) (N:=some 22) (v:=?_) (a':=?_) #[true,true,true,false,true,true,true,false,false,true,true,false,false,false,false,false,false,false,false,false] rfl rfl (any_of HT_.out (by kernel_rfl)) (fun _ _ _ h=>h) (Or.inl ⟨by rfl,?_⟩) ?_ ?_
            rotate_left
            ·intro w'
             go_simp
             with_reducible rfl
            rotate_left
            ·simp only [Act.put,aA,aB,aC,i64_w,i32_w]
             rfl
            refine pure_ (i:=11) (N:=some 23) (v:=?_) (a':=?_) #[true,true,true,false,true,true,true,false,false,true,true,true,false,false,false,false,false,false,false,false] rfl rfl (any_of HT_.out (by kernel_rfl)) (fun _ _ _ h=>h) (Or.inl ⟨by rfl,?_⟩) ?_ ?_
            rotate_left
            ·intro w'
             go_simp
             with_reducible rfl
            rotate_left
            ·simp only [Act.put,aA,aB,aC,i64_w,i32_w]
             rfl
            refine pure_ (i:=13) (N:=some 25) (v:=?_) (a':=?_) #[true,true,true,false,true,true,true,false,false,true,true,true,false,true,false,false,false,false,false,false] rfl rfl (any_of HT_.out (by kernel_rfl)) (fun _ _ _ h=>h) (Or.inl ⟨by rfl,?_⟩) ?_ ?_
            rotate_left
            ·intro w'
             go_simp
             with_reducible rfl
            rotate_left
            ·simp only [Act.put,aA,aB,aC,i64_w,i32_w]
             rfl
            refine pure_ (i:=14) (N:=some 26) (v:=?_) (a':=?_) #[true,true,true,false,true,true,true,false,false,true,true,true,false,true,true,false,false,false,false,false] rfl rfl (any_of HT_.out (by kernel_rfl)) (fun _ _ _ h=>h) (Or.inl ⟨by rfl,?_⟩) ?_ ?_
            rotate_left
            ·intro w'
             go_simp
             with_reducible rfl
            rotate_left
            ·simp only [Act.put,aA,aB,aC,i64_w,i32_w]
             rfl
            refine pure_ (i:=15) (N:=some 27) (v:=?_) (a':=?_) #[true,true,true,false,true,true,true,false,false,true,true,true,false,true,true,true,false,false,false,false] rfl rfl (any_of HT_.out (by kernel_rfl)) (fun _ _ _ h=>h) (Or.inl ⟨by rfl,?_⟩) ?_ ?_
            rotate_left
            ·intro w'
             go_simp
             with_reducible rfl
            rotate_left
            ·simp only [Act.put,aA,aB,aC,i64_w,i32_w]
             rfl
            refine take_ (i:=3) (N:=some 15) (v:=?_) (a':=?_) #[true,true,true,true,true,true,true,false,false,true,true,true,false,true,true,true,false,false,false,false] rfl rfl (take_ofW HT_.out HW_.out (by kernel_rfl)) (fun _ _ _ h=>h) (Or.inl ⟨by rfl,?_⟩) hHeld ?_ ?_
            rotate_left
            ·rintro w' ⟨s0,s1,s2,s3⟩
             go_simp
             with_reducible rfl
            rotate_left
            ·simp only [Act.put,aA,aB,aC,i64_w,i32_w]
             rfl
            refine take_ (i:=7) (N:=some 19) (v:=?_) (a':=?_) #[true,true,true,true,true,true,true,true,false,true,true,true,false,true,true,true,false,false,false,false] rfl rfl (take_ofW HT_.out HW_.out (by kernel_rfl)) (fun _ _ _ h=>h) (Or.inl ⟨by rfl,?_⟩) hHeld ?_ ?_
            rotate_left
            ·rintro w' ⟨s0,s1,s2,s3⟩
             go_simp
             with_reducible rfl
            rotate_left
            ·simp only [Act.put,aA,aB,aC,i64_w,i32_w]
             rfl
            refine take_ (i:=12) (N:=some 24) (v:=?_) (a':=?_) #[true,true,true,true,true,true,true,true,false,true,true,true,true,true,true,true,false,false,false,false] rfl rfl (take_ofW HT_.out HW_.out (by kernel_rfl)) (fun _ _ _ h=>h) (Or.inl ⟨by rfl,?_⟩) hHeld ?_ ?_
            rotate_left
            ·rintro w' ⟨s0,s1,s2,s3⟩
             go_simp
             with_reducible rfl
            rotate_left
            ·simp only [Act.put,aA,aB,aC,i64_w,i32_w]
             rfl
            refine take_ (i:=16) (N:=some 28) (v:=?_) (a':=?_) #[true,true,true,true,true,true,true,true,false,true,true,true,true,true,true,true,true,false,false,false] rfl rfl (take_ofW HT_.out HW_.out (by kernel_rfl)) (fun _ _ _ h=>h) (Or.inl ⟨by rfl,?_⟩) hHeld ?_ ?_
            rotate_left
            ·rintro w' ⟨s0,s1,s2,s3⟩
             go_simp
             with_reducible rfl
            rotate_left
            ·simp only [Act.put,aA,aB,aC,i64_w,i32_w]
             rfl
            refine one_ (i:=8) (N:=some 20) #[true,true,true,true,true,true,true,true,true,true,true,true,true,true,true,true,true,false,false,false] rfl rfl (one_of HT_.out (by kernel_rfl)) (by decide) (fun K hK=>?_)
            first|(refine goes_ Try.func230 (by kernel_rfl) rfl #[.int .i64 (rd l0 x9_1),.int .i64 (rd l1 x9_1)] (by rfl) rfl rfl (by (try simp only [aD,aE,aF]);first|done|rfl|(simp only [aG,aH];rfl)) ?_)|(refine call_ 230 #[.int .i64 (rd l0 x9_1),.int .i64 (rd l1 x9_1)] (by rfl) rfl (by unfold execOp;simp [resolve,Deferred.ofValue,invoke,Act.eval,enters_ Try.func230 (by kernel_rfl) rfl]) ?_)
            with_reducible refine (impl_gain.calls k1 (rd l0 x9_1) (rd l1 x9_1) t103 t104 _ A7.out).mono ?_
            rintro e w15 ⟨rfl,hb⟩
            refine ⟨_,rfl,?_⟩;have n0_:=aM (Qi (by repeat (first|(with_reducible first|exact HB.out|apply Qc|apply Qa|apply Qb)|exact HB.out)) hb);clear HB;have HB:=n0_;clear n0_;(try clear hb);(try clear hb2);(try clear hk);(try clear hi);refine hK.out _ _ ⟨((HB.out.cell (aI w _ hw101_0)).trans hw101_0),((HB.out.cell (aI w _ hw102_0)).trans hw102_0),((HB.out.cell (aI w _ hw105_0)).trans hw105_0),((HB.out.cell (aI w _ hw106_0)).trans hw106_0)⟩ (fun hHeld=>?_);clear hK K;refine norm_ (a':=?_) ?_ ?_
            rotate_left
            ·show Act.put _ (some 20) _=_
             simp only [Act.put,aA,aB,aC,i64_w,i32_w]
             rfl
            refine one_ (i:=17) (N:=some 29) #[true,true,true,true,true,true,true,true,true,true,true,true,true,true,true,true,true,true,false,false] rfl rfl (one_of HT_.out (by kernel_rfl)) (by decide) (fun K hK=>?_)
            first|(refine goes_ Try.func230 (by kernel_rfl) rfl #[.int .i64 (rd l0 x5_1),.int .i64 (rd l1 x5_1)] (by rfl) rfl rfl (by (try simp only [aD,aE,aF]);first|done|rfl|(simp only [aG,aH];rfl)) ?_)|(refine call_ 230 #[.int .i64 (rd l0 x5_1),.int .i64 (rd l1 x5_1)] (by rfl) rfl (by unfold execOp;simp [resolve,Deferred.ofValue,invoke,Act.eval,enters_ Try.func230 (by kernel_rfl) rfl]) ?_)
            with_reducible refine (impl_gain.calls k1 (rd l0 x5_1) (rd l1 x5_1) t107 t108 _ A11.out).mono ?_
            rintro e w16 ⟨rfl,hb⟩
            refine ⟨_,rfl,?_⟩;have n0_:=aM (Qi (by repeat (first|(with_reducible first|exact HB.out|apply Qc|apply Qa|apply Qb)|exact HB.out)) hb);clear HB;have HB:=n0_;clear n0_;(try clear hb);(try clear hb2);(try clear hk);(try clear hi);refine hK.out _ _ ⟨((HB.out.cell (aI w _ hw101_0)).trans hw101_0),((HB.out.cell (aI w _ hw102_0)).trans hw102_0),((HB.out.cell (aI w _ hw105_0)).trans hw105_0),((HB.out.cell (aI w _ hw106_0)).trans hw106_0)⟩ (fun hHeld=>?_);clear hK K;refine norm_ (a':=?_) ?_ ?_
            rotate_left
            ·show Act.put _ (some 29) _=_
             simp only [Act.put,aA,aB,aC,i64_w,i32_w]
             rfl
            refine one_ (i:=18) (N:=some 30) #[true,true,true,true,true,true,true,true,true,true,true,true,true,true,true,true,true,true,true,false] rfl rfl (one_of HT_.out (by kernel_rfl)) (by decide) (fun K hK=>?_)
            first|(refine goes_ Try.func117 (by kernel_rfl) rfl #[.agg #[.int .i64 t103,.int .i64 t104],.agg #[.int .i64 t107,.int .i64 t108]] (by rfl) rfl rfl (by (try simp only [aD,aE,aF]);first|done|rfl|(simp only [aG,aH];rfl)) ?_)|(refine call_ 117 #[.agg #[.int .i64 t103,.int .i64 t104],.agg #[.int .i64 t107,.int .i64 t108]] (by rfl) rfl (by unfold execOp;simp [resolve,Deferred.ofValue,invoke,Act.eval,enters_ Try.func117 (by kernel_rfl) rfl]) ?_)
            with_reducible refine (impl_compareFracs.calls t103 t104 t107 t108 t109 _ A12.out).mono ?_
            rintro e w17 ⟨rfl,hb⟩
            refine ⟨_,rfl,?_⟩;have n0_:=aM (Qi (by repeat (first|(with_reducible first|exact HB.out|apply Qc|apply Qa|apply Qb)|exact HB.out)) hb);clear HB;have HB:=n0_;clear n0_;(try clear hb);(try clear hb2);(try clear hk);(try clear hi);refine hK.out _ _ ⟨((HB.out.cell (aI w _ hw101_0)).trans hw101_0),((HB.out.cell (aI w _ hw102_0)).trans hw102_0),((HB.out.cell (aI w _ hw105_0)).trans hw105_0),((HB.out.cell (aI w _ hw106_0)).trans hw106_0)⟩ (fun hHeld=>?_);clear hK K;refine norm_ (a':=?_) ?_ ?_
            rotate_left
            ·show Act.put _ (some 30) _=_
             simp only [Act.put,aA,aB,aC,i64_w,i32_w]
             rfl
            refine pure_ (i:=19) (N:=some 31) (v:=?_) (a':=?_) #[true,true,true,true,true,true,true,true,true,true,true,true,true,true,true,true,true,true,true,true] rfl rfl (any_of HT_.out (by kernel_rfl)) (fun _ _ _ h=>h) (Or.inl ⟨by rfl,?_⟩) ?_ ?_
            rotate_left
            ·intro w'
             go_simp
             with_reducible rfl
            rotate_left
            ·simp only [Act.put,aA,aB,aC,i64_w,i32_w]
             rfl
            refine done_ (done_of HT_.out (by kernel_rfl)) ?_
            try go_wp2
            go_roundg k1
            case measure=>have:=HK1.out;omega
            case rel=>exact ⟨(x9_1),(wrap64 (x9_1+1)),(by first|rfl|(simp;done)|(simp [*];done)),(by first|rfl|(simp;done)|(simp [*];done)),H',⟨by have:=HK1.out;omega⟩,⟨by repeat (first|(with_reducible first|exact HB.out|apply Qc|apply Qa|apply Qb)|exact HB.out)⟩⟩
           ·rw [if_neg c13] at H;have c13b0:decide (0<t109)=false:=decide_eq_false c13;clear c13;have H':=aM H;clear H
            try go_wp2
            have n0_:=aM (Qb HB.out);clear HB;have HB:=n0_;clear n0_;have p101:0≤(x9_1:Int):=of_decide_eq_true (by first|(with_reducible assumption)|assumption);have q101:x9_1<(l0.length:Int):=of_decide_eq_true (by first|(with_reducible assumption)|assumption);obtain ⟨ad101,e101,hx101_0⟩:=Kd.at_int HR0.out x9_1 p101 q101;have hw101_0:=hx101_0
            cases e101
            replace hx101_0:=(HB.out.cell (aI w _ hx101_0)).trans hx101_0;replace p101:=eq_true p101;replace q101:=eq_true q101;have p102:0≤(x9_1:Int):=of_decide_eq_true (by first|(with_reducible assumption)|assumption);have q102:x9_1<(l1.length:Int):=of_decide_eq_true (by first|(with_reducible assumption)|assumption);obtain ⟨ad102,e102,hx102_0⟩:=Kd.at_int HR1.out x9_1 p102 q102;have hw102_0:=hx102_0
            cases e102
            replace hx102_0:=(HB.out.cell (aI w _ hx102_0)).trans hx102_0;replace p102:=eq_true p102;replace q102:=eq_true q102;have p105:0≤(x5_1:Int):=of_decide_eq_true (by first|(with_reducible assumption)|assumption);have q105:x5_1<(l0.length:Int):=of_decide_eq_true (by first|(with_reducible assumption)|assumption);obtain ⟨ad105,e105,hx105_0⟩:=Kd.at_int HR0.out x5_1 p105 q105;have hw105_0:=hx105_0;obtain rfl:ad101=ad105:=(by injection e105);replace hx105_0:=(HB.out.cell (aI w _ hx105_0)).trans hx105_0;replace p105:=eq_true p105;replace q105:=eq_true q105;have p106:0≤(x5_1:Int):=of_decide_eq_true (by first|(with_reducible assumption)|assumption);have q106:x5_1<(l1.length:Int):=of_decide_eq_true (by first|(with_reducible assumption)|assumption);obtain ⟨ad106,e106,hx106_0⟩:=Kd.at_int HR1.out x5_1 p106 q106;have hw106_0:=hx106_0;obtain rfl:ad102=ad106:=(by injection e106);replace hx106_0:=(HB.out.cell (aI w _ hx106_0)).trans hx106_0;replace p106:=eq_true p106;replace q106:=eq_true q106;refine start_ (n:=20) (S:=fun w'=>w'.cell? (ad101.add (x9_1).toNat)=some (.int .i64 (rd l0 x9_1))∧w'.cell? (ad102.add (x9_1).toNat)=some (.int .i64 (rd l1 x9_1))∧w'.cell? (ad101.add (x5_1).toNat)=some (.int .i64 (rd l0 x5_1))∧w'.cell? (ad102.add (x5_1).toNat)=some (.int .i64 (rd l1 x5_1))) (ds:=[]) #[false,false,false,false,false,false,false,false,false,false,false,false,false,false,false,false,false,false,false,false] (by kernel_rfl) rfl rfl ⟨((HB.out.cell (aI w _ hw101_0)).trans hw101_0),((HB.out.cell (aI w _ hw102_0)).trans hw102_0),((HB.out.cell (aI w _ hw105_0)).trans hw105_0),((HB.out.cell (aI w _ hw106_0)).trans hw106_0)⟩ (fun hHeld=>?_);refine with_tabW impl_next.tab5 impl_next.bits5 (fun HT_ HW_=>?_)
            generalize wr.drew=w18 at HB hx101_0 hx102_0 hx105_0 hx106_0 hHeld ⊢
            refine pure_ (i:=0) (N:=some 12) (v:=?_) (a':=?_) #[true,false,false,false,false,false,false,false,false,false,false,false,false,false,false,false,false,false,false,false] rfl rfl (any_of HT_.out (by kernel_rfl)) (fun _ _ _ h=>h) (Or.inl ⟨by rfl,?_⟩) ?_ ?_
            rotate_left
            ·intro w'
             go_simp
             with_reducible rfl
            rotate_left
            ·simp only [Act.put,aA,aB,aC,i64_w,i32_w]
             rfl
            refine pure_ (i:=1) (N:=some 13) (v:=?_) (a':=?_) #[true,true,false,false,false,false,false,false,false,false,false,false,false,false,false,false,false,false,false,false] rfl rfl (any_of HT_.out (by kernel_rfl)) (fun _ _ _ h=>h) (Or.inl ⟨by rfl,?_⟩) ?_ ?_
            rotate_left
            ·intro w'
             go_simp
             with_reducible rfl
            rotate_left
            ·simp only [Act.put,aA,aB,aC,i64_w,i32_w]
             rfl
            refine pure_ (i:=2) (N:=some 14) (v:=?_) (a':=?_) #[true,true,true,false,false,false,false,false,false,false,false,false,false,false,false,false,false,false,false,false] rfl rfl (any_of HT_.out (by kernel_rfl)) (fun _ _ _ h=>h) (Or.inl ⟨by rfl,?_⟩) ?_ ?_
            rotate_left
            ·intro w'
             go_simp
             with_reducible rfl
            rotate_left
            ·simp only [Act.put,aA,aB,aC,i64_w,i32_w]
             rfl
            refine pure_ (i:=4) (N:=some 16) (v:=?_) (a':=?_) #[true,true,true,false,true,false,false,false,false,false,false,false,false,false,false,false,false,false,false,false] rfl rfl (any_of HT_.out (by kernel_rfl)) (fun _ _ _ h=>h) (Or.inl ⟨by rfl,?_⟩) ?_ ?_
            rotate_left
            ·intro w'
             go_simp
             with_reducible rfl
            rotate_left
            ·simp only [Act.put,aA,aB,aC,i64_w,i32_w]
             rfl
            refine pure_ (i:=5) (N:=some 17) (v:=?_) (a':=?_) #[true,true,true,false,true,true,false,false,false,false,false,false,false,false,false,false,false,false,false,false] rfl rfl (any_of HT_.out (by kernel_rfl)) (fun _ _ _ h=>h) (Or.inl ⟨by rfl,?_⟩) ?_ ?_
            rotate_left
            ·intro w'
             go_simp
             with_reducible rfl
            rotate_left
            ·simp only [Act.put,aA,aB,aC,i64_w,i32_w]
             rfl
            refine pure_ (i:=6) (N:=some 18) (v:=?_) (a':=?_) #[true,true,true,false,true,true,true,false,false,false,false,false,false,false,false,false,false,false,false,false] rfl rfl (any_of HT_.out (by kernel_rfl)) (fun _ _ _ h=>h) (Or.inl ⟨by rfl,?_⟩) ?_ ?_
            rotate_left
            ·intro w'
             go_simp
             with_reducible rfl
            rotate_left
            ·simp only [Act.put,aA,aB,aC,i64_w,i32_w]
             rfl
            refine pure_ (i:=9) (N:=some 21) (v:=?_) (a':=?_) #[true,true,true,false,true,true,true,false,false,true,false,false,false,false,false,false,false,false,false,false] rfl rfl (any_of HT_.out (by kernel_rfl)) (fun _ _ _ h=>h) (Or.inl ⟨by rfl,?_⟩) ?_ ?_
            rotate_left
            ·intro w'
             go_simp
             with_reducible rfl
            rotate_left
            ·simp only [Act.put,aA,aB,aC,i64_w,i32_w]
             rfl
            refine pure_ (i:=10) (N:=some 22) (v:=?_) (a':=?_) #[true,true,true,false,true,true,true,false,false,true,true,false,false,false,false,false,false,false,false,false] rfl rfl (any_of HT_.out (by kernel_rfl)) (fun _ _ _ h=>h) (Or.inl ⟨by rfl,?_⟩) ?_ ?_
            rotate_left
            ·intro w'
             go_simp
             with_reducible rfl
            rotate_left
            ·simp only [Act.put,aA,aB,aC,i64_w,i32_w]
             rfl
            refine pure_ (i:=11) (N:=some 23) (v:=?_) (a':=?_) #[true,true,true,false,true,true,true,false,false,true,true,true,false,false,false,false,false,false,false,false] rfl rfl (any_of HT_.out (by kernel_rfl)) (fun _ _ _ h=>h) (Or.inl ⟨by rfl,?_⟩) ?_ ?_
            rotate_left
            ·intro w'
             go_simp
             with_reducible rfl
            rotate_left
            ·simp only [Act.put,aA,aB,aC,i64_w,i32_w]
             rfl
            refine pure_ (i:=13) (N:=some 25) (v:=?_) (a':=?_) #[true,true,true,false,true,true,true,false,false,true,true,true,false,true,false,false,false,false,false,false] rfl rfl (any_of HT_.out (by kernel_rfl)) (fun _ _ _ h=>h) (Or.inl ⟨by rfl,?_⟩) ?_ ?_
            rotate_left
            ·intro w'
             go_simp
             with_reducible rfl
            rotate_left
            ·simp only [Act.put,aA,aB,aC,i64_w,i32_w]
             rfl
            refine pure_ (i:=14) (N:=some 26) (v:=?_) (a':=?_) #[true,true,true,false,true,true,true,false,false,true,true,true,false,true,true,false,false,false,false,false] rfl rfl (any_of HT_.out (by kernel_rfl)) (fun _ _ _ h=>h) (Or.inl ⟨by rfl,?_⟩) ?_ ?_
            rotate_left
            ·intro w'
             go_simp
             with_reducible rfl
            rotate_left
            ·simp only [Act.put,aA,aB,aC,i64_w,i32_w]
             rfl
            refine pure_ (i:=15) (N:=some 27) (v:=?_) (a':=?_) #[true,true,true,false,true,true,true,false,false,true,true,true,false,true,true,true,false,false,false,false] rfl rfl (any_of HT_.out (by kernel_rfl)) (fun _ _ _ h=>h) (Or.inl ⟨by rfl,?_⟩) ?_ ?_
            rotate_left
            ·intro w'
             go_simp
             with_reducible rfl
            rotate_left
            ·simp only [Act.put,aA,aB,aC,i64_w,i32_w]
             rfl
            refine take_ (i:=3) (N:=some 15) (v:=?_) (a':=?_) #[true,true,true,true,true,true,true,false,false,true,true,true,false,true,true,true,false,false,false,false] rfl rfl (take_ofW HT_.out HW_.out (by kernel_rfl)) (fun _ _ _ h=>h) (Or.inl ⟨by rfl,?_⟩) hHeld ?_ ?_
            rotate_left
            ·rintro w' ⟨s0,s1,s2,s3⟩
             go_simp
             with_reducible rfl
            rotate_left
            ·simp only [Act.put,aA,aB,aC,i64_w,i32_w]
             rfl
            refine take_ (i:=7) (N:=some 19) (v:=?_) (a':=?_) #[true,true,true,true,true,true,true,true,false,true,true,true,false,true,true,true,false,false,false,false] rfl rfl (take_ofW HT_.out HW_.out (by kernel_rfl)) (fun _ _ _ h=>h) (Or.inl ⟨by rfl,?_⟩) hHeld ?_ ?_
            rotate_left
            ·rintro w' ⟨s0,s1,s2,s3⟩
             go_simp
             with_reducible rfl
            rotate_left
            ·simp only [Act.put,aA,aB,aC,i64_w,i32_w]
             rfl
            refine take_ (i:=12) (N:=some 24) (v:=?_) (a':=?_) #[true,true,true,true,true,true,true,true,false,true,true,true,true,true,true,true,false,false,false,false] rfl rfl (take_ofW HT_.out HW_.out (by kernel_rfl)) (fun _ _ _ h=>h) (Or.inl ⟨by rfl,?_⟩) hHeld ?_ ?_
            rotate_left
            ·rintro w' ⟨s0,s1,s2,s3⟩
             go_simp
             with_reducible rfl
            rotate_left
            ·simp only [Act.put,aA,aB,aC,i64_w,i32_w]
             rfl
            refine take_ (i:=16) (N:=some 28) (v:=?_) (a':=?_) #[true,true,true,true,true,true,true,true,false,true,true,true,true,true,true,true,true,false,false,false] rfl rfl (take_ofW HT_.out HW_.out (by kernel_rfl)) (fun _ _ _ h=>h) (Or.inl ⟨by rfl,?_⟩) hHeld ?_ ?_
            rotate_left
            ·rintro w' ⟨s0,s1,s2,s3⟩
             go_simp
             with_reducible rfl
            rotate_left
            ·simp only [Act.put,aA,aB,aC,i64_w,i32_w]
             rfl
            refine one_ (i:=8) (N:=some 20) #[true,true,true,true,true,true,true,true,true,true,true,true,true,true,true,true,true,false,false,false] rfl rfl (one_of HT_.out (by kernel_rfl)) (by decide) (fun K hK=>?_)
            first|(refine goes_ Try.func230 (by kernel_rfl) rfl #[.int .i64 (rd l0 x9_1),.int .i64 (rd l1 x9_1)] (by rfl) rfl rfl (by (try simp only [aD,aE,aF]);first|done|rfl|(simp only [aG,aH];rfl)) ?_)|(refine call_ 230 #[.int .i64 (rd l0 x9_1),.int .i64 (rd l1 x9_1)] (by rfl) rfl (by unfold execOp;simp [resolve,Deferred.ofValue,invoke,Act.eval,enters_ Try.func230 (by kernel_rfl) rfl]) ?_)
            with_reducible refine (impl_gain.calls k1 (rd l0 x9_1) (rd l1 x9_1) t103 t104 _ A7.out).mono ?_
            rintro e w19 ⟨rfl,hb⟩
            refine ⟨_,rfl,?_⟩;have n0_:=aM (Qi (by repeat (first|(with_reducible first|exact HB.out|apply Qc|apply Qa|apply Qb)|exact HB.out)) hb);clear HB;have HB:=n0_;clear n0_;(try clear hb);(try clear hb2);(try clear hk);(try clear hi);refine hK.out _ _ ⟨((HB.out.cell (aI w _ hw101_0)).trans hw101_0),((HB.out.cell (aI w _ hw102_0)).trans hw102_0),((HB.out.cell (aI w _ hw105_0)).trans hw105_0),((HB.out.cell (aI w _ hw106_0)).trans hw106_0)⟩ (fun hHeld=>?_);clear hK K;refine norm_ (a':=?_) ?_ ?_
            rotate_left
            ·show Act.put _ (some 20) _=_
             simp only [Act.put,aA,aB,aC,i64_w,i32_w]
             rfl
            refine one_ (i:=17) (N:=some 29) #[true,true,true,true,true,true,true,true,true,true,true,true,true,true,true,true,true,true,false,false] rfl rfl (one_of HT_.out (by kernel_rfl)) (by decide) (fun K hK=>?_)
            first|(refine goes_ Try.func230 (by kernel_rfl) rfl #[.int .i64 (rd l0 x5_1),.int .i64 (rd l1 x5_1)] (by rfl) rfl rfl (by (try simp only [aD,aE,aF]);first|done|rfl|(simp only [aG,aH];rfl)) ?_)|(refine call_ 230 #[.int .i64 (rd l0 x5_1),.int .i64 (rd l1 x5_1)] (by rfl) rfl (by unfold execOp;simp [resolve,Deferred.ofValue,invoke,Act.eval,enters_ Try.func230 (by kernel_rfl) rfl]) ?_)
            with_reducible refine (impl_gain.calls k1 (rd l0 x5_1) (rd l1 x5_1) t107 t108 _ A11.out).mono ?_
            rintro e w20 ⟨rfl,hb⟩
            refine ⟨_,rfl,?_⟩;have n0_:=aM (Qi (by repeat (first|(with_reducible first|exact HB.out|apply Qc|apply Qa|apply Qb)|exact HB.out)) hb);clear HB;have HB:=n0_;clear n0_;(try clear hb);(try clear hb2);(try clear hk);(try clear hi);refine hK.out _ _ ⟨((HB.out.cell (aI w _ hw101_0)).trans hw101_0),((HB.out.cell (aI w _ hw102_0)).trans hw102_0),((HB.out.cell (aI w _ hw105_0)).trans hw105_0),((HB.out.cell (aI w _ hw106_0)).trans hw106_0)⟩ (fun hHeld=>?_);clear hK K;refine norm_ (a':=?_) ?_ ?_
            rotate_left
            ·show Act.put _ (some 29) _=_
             simp only [Act.put,aA,aB,aC,i64_w,i32_w]
             rfl
            refine one_ (i:=18) (N:=some 30) #[true,true,true,true,true,true,true,true,true,true,true,true,true,true,true,true,true,true,true,false] rfl rfl (one_of HT_.out (by kernel_rfl)) (by decide) (fun K hK=>?_)
            first|(refine goes_ Try.func117 (by kernel_rfl) rfl #[.agg #[.int .i64 t103,.int .i64 t104],.agg #[.int .i64 t107,.int .i64 t108]] (by rfl) rfl rfl (by (try simp only [aD,aE,aF]);first|done|rfl|(simp only [aG,aH];rfl)) ?_)|(refine call_ 117 #[.agg #[.int .i64 t103,.int .i64 t104],.agg #[.int .i64 t107,.int .i64 t108]] (by rfl) rfl (by unfold execOp;simp [resolve,Deferred.ofValue,invoke,Act.eval,enters_ Try.func117 (by kernel_rfl) rfl]) ?_)
            with_reducible refine (impl_compareFracs.calls t103 t104 t107 t108 t109 _ A12.out).mono ?_
            rintro e w21 ⟨rfl,hb⟩
            refine ⟨_,rfl,?_⟩;have n0_:=aM (Qi (by repeat (first|(with_reducible first|exact HB.out|apply Qc|apply Qa|apply Qb)|exact HB.out)) hb);clear HB;have HB:=n0_;clear n0_;(try clear hb);(try clear hb2);(try clear hk);(try clear hi);refine hK.out _ _ ⟨((HB.out.cell (aI w _ hw101_0)).trans hw101_0),((HB.out.cell (aI w _ hw102_0)).trans hw102_0),((HB.out.cell (aI w _ hw105_0)).trans hw105_0),((HB.out.cell (aI w _ hw106_0)).trans hw106_0)⟩ (fun hHeld=>?_);clear hK K;refine norm_ (a':=?_) ?_ ?_
            rotate_left
            ·show Act.put _ (some 30) _=_
             simp only [Act.put,aA,aB,aC,i64_w,i32_w]
             rfl
            refine pure_ (i:=19) (N:=some 31) (v:=?_) (a':=?_) #[true,true,true,true,true,true,true,true,true,true,true,true,true,true,true,true,true,true,true,true] rfl rfl (any_of HT_.out (by kernel_rfl)) (fun _ _ _ h=>h) (Or.inl ⟨by rfl,?_⟩) ?_ ?_
            rotate_left
            ·intro w'
             go_simp
             with_reducible rfl
            rotate_left
            ·simp only [Act.put,aA,aB,aC,i64_w,i32_w]
             rfl
            refine done_ (done_of HT_.out (by kernel_rfl)) ?_
            try go_wp2
            go_roundg k1
            case measure=>have:=HK1.out;omega
            case rel=>exact ⟨(x5_1),(wrap64 (x9_1+1)),(by first|rfl|(simp;done)|(simp [*];done)),(by first|rfl|(simp;done)|(simp [*];done)),H',⟨by have:=HK1.out;omega⟩,⟨by repeat (first|(with_reducible first|exact HB.out|apply Qc|apply Qa|apply Qb)|exact HB.out)⟩⟩
          ·rw [if_neg c10] at H;exact absurd H (by simp)
         ·rw [if_neg c9] at H;exact absurd H (by simp)
        ·rw [if_neg c8] at H;exact absurd H (by simp)
       ·rw [if_neg c6] at H;exact absurd H (by simp)
      ·rw [if_neg c5] at H;exact absurd H (by simp)
     ·rw [if_neg c4] at H;exact absurd H (by simp)
    ·rw [if_neg c3] at H;have c3b0:decide (x9_1<(l0.length:Int))=false:=decide_eq_false c3;clear c3;obtain rfl:=Option.some.inj H;go_wp2
     go_ret
     exact ⟨by first|rfl|(simp [errW_none,errW_some] <;> rfl)|(simp [*,errW_none,errW_some] <;> rfl),by repeat (first|(with_reducible first|exact HB.out|apply Qc|apply Qa|apply Qb)|exact HB.out)⟩

def impl_shareOut.l0:Nat→List Int→List Int→Int→Int→Option (List Int)
  |0,_,_,_,_=>none
  |k+1,x0,x5,x13,x14=>if x14<x13 then ((impl_next.f k x0 x5).bind fun t107=>(if 0≤t107 then (if t107<(x5.length:Int) then (impl_shareOut.l0 k x0 (x5.set (t107:Int).toNat (wrap64 ((rd x5 t107)+1))) x13 (wrap64 (x14+1))) else (none)) else (none))) else (some x5)
def impl_shareOut.f (k:Nat) (l0:List Int) (a1:Int):Option (List Int):=(slices_Repeat_int_int.f (([1]:List Int)) (l0.length:Int)).bind fun t104=>(impl_shareOut.l0 k l0 t104 (wrap64 (a1 - (l0.length:Int))) 0)
set_option maxHeartbeats 8000000 in
set_option maxRecDepth 100000 in
theorem impl_shareOut.calls (k:Nat) (A0:Option Addr) (c0:Nat) (l0:List Int) (a1:Int) (r:List Int) (w:World) (hr0:Kd.C (Kd.int .i64) w A0 l0.length l0) (hc0:l0.length≤c0) (h:impl_shareOut.f k l0 a1=some r) :
    Calls Try.prog 109 #[.slice A0 l0.length c0,.int .i64 a1] w fun e w'=>∃ v0_:Value,e= .returned (v0_)∧Kd.R (Kd.int .i64) 3 w' w.heap.size (fun _=>True) v0_ r∧Below w.heap.size w w':=by
  have HR0:=aM hr0;have HC0:=aM hc0;clear hr0 hc0;have HB:=aM (Below.refl w.heap.size w);have H:((slices_Repeat_int_int.f (([1]:List Int)) (l0.length:Int)).bind fun t104=>(impl_shareOut.l0 k l0 t104 (wrap64 (a1 - (l0.length:Int))) 0))=some r:=h;clear h;obtain ⟨y101,hy101⟩:∃ y_:List Int,y_=(([1]:List Int)):=⟨_,rfl⟩;replace H:((slices_Repeat_int_int.f y101 (l0.length:Int)).bind fun t104=>(impl_shareOut.l0 k l0 t104 (wrap64 (a1 - (l0.length:Int))) 0))=some r:=by first|(rw [hy101];with_reducible exact H)|(have H2_:=(Option.bind_some _ _).symm.trans H;rw [hy101];with_reducible exact H2_)|(have H2_:=(Option.bind_some _ _).symm.trans H;with_reducible exact H2_)|with_reducible exact H|(rw [hy101];exact H)|exact H
  have Ny101:=aM hy101;clear hy101;replace H:=Option.bind_eq_some_iff.mp H;obtain ⟨t104,A30,H⟩:=H;replace H:(impl_shareOut.l0 k l0 t104 (wrap64 (a1 - (l0.length:Int))) 0)=some r:=H;have A3:=aM A30;clear A30;have H':=aM H;clear H;go_enter Try.func109,Try.ntmps109;go_wp2_with (first|((with_reducible refine gate_dst (N:=6) rfl ?_);refine Kd.R_lit (Kd.int .i64) _ 3 ?hg (N:=6) ?hd (xs:=([1]:List Int)) (inner:=[.int .i64 1]) (ok:=fun _=>True) (okp:=fun _=>True) ?hr ?hp (fun _ hk=>hk) trivial (Below.refl _ _) (Nat.le_refl _) (by simp) ?_;(case hd=>rfl);(case hg=>rfl);(case hr=>first|(go_simp;done)|(go_simp;rfl));(case hp=>exact (Reps.one (show Kd.M (Kd.int .i64) _ _ _ 1 [.int .i64 1] from rfl) (Reps.none _ _)));intro v102 w4 ho5 hb hg_ hnew_;clear hg_ hnew_;(first|rw [←Ny101.out] at ho5|(simp only [Int.reduceToNat] at ho5;rw [←Ny101.out] at ho5));have n0_:=aM (Kd.R_lower ho5 (Qj (by repeat (first|(with_reducible first|exact HB.out|apply Qc|apply Qa|apply Qb)|exact HB.out))));have n1_:=aM (Qi (by repeat (first|(with_reducible first|exact HB.out|apply Qc|apply Qa|apply Qb)|exact HB.out)) hb);clear HB;have HO103:=n0_;have HB:=n1_;clear n0_ n1_;clear hb ho5;obtain ⟨Ao6,co6,eo6⟩:=Kd.R_slice HO103.out;subst eo6)|((with_reducible refine Qh (f:=199) rfl ?_);refine goesL_ (some 9) rfl rfl Try.func199 (by kernel_rfl) rfl #[.slice Ao6 y101.length co6,.int .i64 (l0.length:Int)] rfl (by (try simp only [aD,aE,aF]);first|done|rfl|(simp only [aG,aH];rfl)) ?_;(with_reducible refine (slices_Repeat_int_int.calls _ _ y101 (l0.length:Int) t104 _ ?side1 ?side2 A3.out).mono ?_);(case side1=>repeat (first|exact (Kd.R_reads' HO103.out).2.2|(with_reducible refine Kd.C_alloc ?_ _)|(with_reducible refine Kd.C_drewN ?_ _)|(with_reducible refine Kd.C_drew ?_)));(case side2=>exact (Kd.R_reads' HO103.out).2.1);rintro e w7 ⟨v105,rfl,ho0,hb⟩;refine ⟨_,rfl,?_⟩;have n0_:=aM (Kd.R_elder' (by (with_reducible repeat (first|apply Kd.R_alloc|apply Kd.R_drewN|apply Kd.R_drew));exact HO103.out) (Kd.R_base ho0) hb);have n1_:=aM (Kd.R_lower (Kd.R_new' ho0 (Kd.R_lt (by (with_reducible repeat (first|apply Kd.R_alloc|apply Kd.R_drewN|apply Kd.R_drew));exact HO103.out))) (Qj (by repeat (first|(with_reducible first|exact HB.out|apply Qc|apply Qa|apply Qb)|exact HB.out))));have n2_:=aM (Qi (by repeat (first|(with_reducible first|exact HB.out|apply Qc|apply Qa|apply Qb)|exact HB.out)) hb);clear HO103;clear HB;have HO103:=n0_;have HO106:=n1_;have HB:=n2_;clear n0_ n1_ n2_;(try clear hb);(try clear hb2);(try clear hk);(try clear hi);(try clear ho0)))
  go_loopg [14] k (fun kq v14 w'=>∃ (x5_1:List Int) (x14_1:Int),v14= .int .i64 x14_1∧Aside0 (impl_shareOut.l0 kq l0 x5_1 (wrap64 (a1 - (l0.length:Int))) x14_1=some r)∧Aside0 (kq≤k)∧Aside0 (Kd.R (Kd.int .i64) 3 w' w.heap.size (fun _=>True) v105 x5_1)∧Aside0 (Below w.heap.size w w'))
  case atStart=>exact ⟨(t104),(0),(by first|rfl|(simp;done)|(simp [*];done)),H',⟨Nat.le_refl _⟩,⟨by (with_reducible repeat (first|apply Kd.R_alloc|apply Kd.R_drewN|apply Kd.R_drew));exact Kd.R_mono HO106.out (fun _ hk=>trivial)⟩,⟨by repeat (first|(with_reducible first|exact HB.out|apply Qc|apply Qa|apply Qb)|exact HB.out)⟩⟩
  case round=>
   clear H';(try clear c1);(try clear p2);(try clear p6);obtain ⟨x5_1,x14_1,rfl,HA,HK1,HO_5,HB⟩:=hrel
   cases gk with
   |zero=>exact absurd HA.out (by simp [impl_shareOut.l0])
   |succ k1=>
    have H:=HA.out;clear HA;simp only [impl_shareOut.l0] at H;by_cases c8:x14_1<(wrap64 (a1 - (l0.length:Int)))
    ·rw [if_pos c8] at H;have c8b0:decide (x14_1<(wrap64 (a1 - (l0.length:Int))))=true:=decide_eq_true c8;clear c8;replace H:=Option.bind_eq_some_iff.mp H;obtain ⟨t107,A90,H⟩:=H;replace H:(if 0≤t107 then (if t107<(x5_1.length:Int) then (impl_shareOut.l0 k1 l0 (x5_1.set (t107:Int).toNat (wrap64 ((rd x5_1 t107)+1))) (wrap64 (a1 - (l0.length:Int))) (wrap64 (x14_1+1))) else (none)) else (none))=some r:=H;have A9:=aM A90;clear A90;by_cases c10:0≤t107
     ·rw [if_pos c10] at H;have c10b0:decide (0≤t107)=true:=decide_eq_true c10;clear c10;by_cases c11:t107<(x5_1.length:Int)
      ·rw [if_pos c11] at H;have c11b0:decide (t107<(x5_1.length:Int))=true:=decide_eq_true c11;clear c11;obtain ⟨y109,hy109⟩:∃ y_:List Int,y_=(x5_1.set (t107:Int).toNat (wrap64 ((rd x5_1 t107)+1))):=⟨_,rfl⟩;replace H:(impl_shareOut.l0 k1 l0 y109 (wrap64 (a1 - (l0.length:Int))) (wrap64 (x14_1+1)))=some r:=by first|(rw [hy109];with_reducible exact H)|(have H2_:=(Option.bind_some _ _).symm.trans H;rw [hy109];with_reducible exact H2_)|(have H2_:=(Option.bind_some _ _).symm.trans H;with_reducible exact H2_)|with_reducible exact H|(rw [hy109];exact H)|exact H
       have Ny109:=aM hy109;clear hy109;have H':=aM H;clear H;obtain ⟨Ao13,co13,eo13⟩:=Kd.R_slice HO_5.out;subst eo13;go_wp2_with (first|((with_reducible refine Qh (f:=200) rfl ?_);refine goesL_ (some 19) rfl rfl Try.func200 (by kernel_rfl) rfl #[.slice A0 l0.length c0,.slice Ao13 x5_1.length co13] rfl (by (try simp only [aD,aE,aF]);first|done|rfl|(simp only [aG,aH];rfl)) ?_;(with_reducible refine (impl_next.calls k1 _ _ l0 _ _ x5_1 t107 _ ?side1 ?side2 ?side3 ?side4 A9.out).mono ?_);(case side1=>repeat (first|exact (Kd.C_below HR0.out HB.out)|(with_reducible refine Kd.C_alloc ?_ _)|(with_reducible refine Kd.C_drewN ?_ _)|(with_reducible refine Kd.C_drew ?_)));(case side2=>exact HC0.out);(case side3=>repeat (first|exact (Kd.R_reads' HO_5.out).2.2|(with_reducible refine Kd.C_alloc ?_ _)|(with_reducible refine Kd.C_drewN ?_ _)|(with_reducible refine Kd.C_drew ?_)));(case side4=>exact (Kd.R_reads' HO_5.out).2.1);rintro e w14 ⟨rfl,hb⟩;refine ⟨_,rfl,?_⟩;have n0_:=aM (Kd.R_below (by (with_reducible repeat (first|apply Kd.R_alloc|apply Kd.R_drewN|apply Kd.R_drew));exact HO_5.out) hb);have n1_:=aM (Qi (by repeat (first|(with_reducible first|exact HB.out|apply Qc|apply Qa|apply Qb)|exact HB.out)) hb);clear HO_5;clear HB;have HO_5:=n0_;have HB:=n1_;clear n0_ n1_;(try clear hb);(try clear hb2);(try clear hk);(try clear hi);have p108:0≤(t107:Int):=of_decide_eq_true (by first|(with_reducible assumption)|assumption);have q108:t107<(x5_1.length:Int):=of_decide_eq_true (by first|(with_reducible assumption)|assumption);obtain ⟨ad108,e108,hx108_0⟩:=Kd.at_int (Kd.R_reads' HO_5.out).2.2 t107 p108 q108;cases e108;replace p108:=eq_true p108;replace q108:=eq_true q108;have p12:0≤(t107:Int):=of_decide_eq_true (by first|(with_reducible assumption)|assumption);have q12:(t107:Int)<((x5_1.length:Int):Int):=of_decide_eq_true (by first|(with_reducible assumption)|assumption);obtain ⟨go12,co12,eo12,gb12,gl12,cl12,HG12⟩:=Kd.R_form HO_5.out (by omega);(first|cases eo12|(injection eo12 with ea_ en_ ec_;(first|subst ea_|(injection ea_ with ea_;subst ea_));subst ec_;clear en_));have GB12:=aM gb12;have GG12:=aM HG12;clear gb12 gl12 HG12;(first|simp only [add_plain] at hx108_0|skip);obtain ⟨hx12_0,hf12_0⟩:=Kd.R_celln 0 HO_5.out (t107:Int) p12 q12;replace p12:=eq_true p12;replace q12:=eq_true q12;obtain ⟨hy15_,hz15_⟩:=Kd.R_celln 0 HO_5.out (t107:Int) (of_decide_eq_true (by first|(with_reducible assumption)|assumption)) (of_decide_eq_true (by first|(with_reducible assumption)|assumption));have HP15:=Kd.R_putg HO_5.out (t107:Int) (wrap64 ((rd x5_1 t107)+1)))|((with_reducible refine gate_store (t:=3) (p:=23) rfl ?_);refine store_event (t:=3) (p:=23) (v:=?vo_w16) (w1:=(w14.setCell ⟨go12,(t107:Int).toNat,none⟩ (.int .i64 (wrap64 ((rd x5_1 t107)+1))))) ?hg ?ho ?hn ?hr ?_;(case ho=>rfl);(case hg=>rfl);(case hn=>rfl);(case hr=>first|(go_simp;done)|(go_simp;rfl));intro w16 hw;have hg:w14.grownBy w16 (some go12):=(by rw [hw];exact HP15.2);have hp_:Kd.R (Kd.int .i64) 3 w16 w.heap.size (fun _=>True) (.slice (some ⟨go12,0,none⟩) x5_1.length co13) y109:=(by rw [hw,Ny109.out];exact HP15.1);clear HP15;have n0_:=aM (hp_);have n1_:=aM ((by rw [hw];exact Qg (HB.out) GB12.out:Below w.heap.size w w16));clear HO_5;clear HB;have HO_5:=n0_;have HB:=n1_;clear n0_ n1_;clear hg hw hp_))
       go_roundg k1
       case measure=>have:=HK1.out;omega
       case rel=>exact ⟨(y109),(wrap64 (x14_1+1)),(by first|rfl|(simp;done)|(simp [*];done)),H',⟨by have:=HK1.out;omega⟩,⟨by (with_reducible repeat (first|apply Kd.R_alloc|apply Kd.R_drewN|apply Kd.R_drew));exact HO_5.out⟩,⟨by repeat (first|(with_reducible first|exact HB.out|apply Qc|apply Qa|apply Qb)|exact HB.out)⟩⟩
      ·rw [if_neg c11] at H;exact absurd H (by simp)
     ·rw [if_neg c10] at H;exact absurd H (by simp)
    ·rw [if_neg c8] at H;have c8b0:decide (x14_1<(wrap64 (a1 - (l0.length:Int))))=false:=decide_eq_false c8;clear c8;obtain rfl:=Option.some.inj H;go_wp2
     go_ret
     exact ⟨_,by first|rfl|(simp [errW_none,errW_some] <;> rfl)|(simp [*,errW_none,errW_some] <;> rfl),by (with_reducible repeat (first|apply Kd.R_alloc|apply Kd.R_drewN|apply Kd.R_drew));exact HO_5.out,by repeat (first|(with_reducible first|exact HB.out|apply Qc|apply Qa|apply Qb)|exact HB.out)⟩

def impl_ShareMore.l0:Nat→List Int→Int→List (List Int)→Int→Option ((List (List Int))×Bool)
  |0,_,_,_,_=>none
  |k+1,x0,x1,x6,x7=>if x7≤x1 then ((impl_shareOut.f k x0 x7).bind fun t105=>(if x6.length<5864062014805 then (impl_ShareMore.l0 k x0 x1 (x6 ++ [t105]) (wrap64 (x7+1))) else (none))) else (some (x6,true))
def impl_ShareMore.f (k:Nat) (l0:List Int) (a1:Int):Option ((List (List Int))×Bool):=(impl_GoodKinds.f k l0 a1).bind fun t101=>(if t101=true then (impl_ShareMore.l0 k l0 a1 (([]:List (List Int))) (l0.length:Int)) else (some (([]:List (List Int)),false)))
set_option maxHeartbeats 8000000 in
set_option maxRecDepth 100000 in
theorem impl_ShareMore.calls (k:Nat) (A0:Option Addr) (c0:Nat) (l0:List Int) (a1:Int) (r1:List (List Int)) (r2:Bool) (w:World) (hr0:Kd.C (Kd.int .i64) w A0 l0.length l0) (hc0:l0.length≤c0) (h:impl_ShareMore.f k l0 a1=some (r1,r2)) :
    Calls Try.prog 18 #[.slice A0 l0.length c0,.int .i64 a1] w fun e w'=>∃ v0_:Value,e= .returned (.tuple #[v0_,.bool r2])∧Kd.S (Kd.slice 3 (Kd.int .i64)) 23 w' w.heap.size (fun _=>True) v0_ r1∧Below w.heap.size w w':=by
  have HR0:=aM hr0;have HC0:=aM hc0;clear hr0 hc0;have HB:=aM (Below.refl w.heap.size w);have H:((impl_GoodKinds.f k l0 a1).bind fun t101=>(if t101=true then (impl_ShareMore.l0 k l0 a1 (([]:List (List Int))) (l0.length:Int)) else (some (([]:List (List Int)),false))))=some (r1,r2):=h;clear h;replace H:=Option.bind_eq_some_iff.mp H;obtain ⟨t101,A30,H⟩:=H;replace H:(if t101=true then (impl_ShareMore.l0 k l0 a1 (([]:List (List Int))) (l0.length:Int)) else (some (([]:List (List Int)),false)))=some (r1,r2):=H;have A3:=aM A30;clear A30;by_cases c4:t101=true
  ·subst c4;have H1:(impl_ShareMore.l0 k l0 a1 (([]:List (List Int))) (l0.length:Int))=some (r1,r2):=by rw [if_pos rfl] at H;exact H
   clear H;have H:=H1;clear H1;obtain ⟨y102,hy102⟩:∃ y_:List (List Int),y_=(([]:List (List Int))):=⟨_,rfl⟩;replace H:(impl_ShareMore.l0 k l0 a1 y102 (l0.length:Int))=some (r1,r2):=by first|(rw [hy102];with_reducible exact H)|(have H2_:=(Option.bind_some _ _).symm.trans H;rw [hy102];with_reducible exact H2_)|(have H2_:=(Option.bind_some _ _).symm.trans H;with_reducible exact H2_)|with_reducible exact H|(rw [hy102];exact H)|exact H
   have Ny102:=aM hy102;clear hy102;have H':=aM H;clear H;go_enter Try.func18,Try.ntmps18;go_wp2_with (first|((with_reducible refine Qh (f:=21) rfl ?_);refine goesL_ (some 10) rfl rfl Try.func21 (by kernel_rfl) rfl #[.slice A0 l0.length c0,.int .i64 a1] rfl (by (try simp only [aD,aE,aF]);first|done|rfl|(simp only [aG,aH];rfl)) ?_;(with_reducible refine (impl_GoodKinds.calls k _ _ l0 a1 true _ ?side1 ?side2 A3.out).mono ?_);(case side1=>repeat (first|exact HR0.out|(with_reducible refine Kd.C_alloc ?_ _)|(with_reducible refine Kd.C_drewN ?_ _)|(with_reducible refine Kd.C_drew ?_)));(case side2=>exact HC0.out);rintro e w5 ⟨rfl,hb⟩;refine ⟨_,rfl,?_⟩;have n0_:=aM (Qi (by repeat (first|(with_reducible first|exact HB.out|apply Qc|apply Qa|apply Qb)|exact HB.out)) hb);clear HB;have HB:=n0_;clear n0_;(try clear hb);(try clear hb2);(try clear hk);(try clear hi))|((with_reducible refine gate_dst (N:=12) rfl ?_);refine Kd.S_lit (Kd.slice 3 (Kd.int .i64)) _ 23 ?hg (N:=12) ?hd (xs:=([]:List (List Int))) (inner:=[]) (ok:=fun _=>True) (okp:=fun _=>True) ?hr ?hp (fun _ hk=>hk) trivial (Below.refl _ _) (Nat.le_refl _) (by simp) ?_;(case hd=>rfl);(case hg=>rfl);(case hr=>first|(go_simp;done)|(go_simp;rfl));(case hp=>exact (Reps.none _ _));intro v103 w6 ho7 hb hg_ hnew_;clear hg_ hnew_;(first|rw [←Ny102.out] at ho7|(simp only [Int.reduceToNat] at ho7;rw [←Ny102.out] at ho7));have n0_:=aM (Kd.S_lower ho7 (Qj (by repeat (first|(with_reducible first|exact HB.out|apply Qc|apply Qa|apply Qb)|exact HB.out))));have n1_:=aM (Qi (by repeat (first|(with_reducible first|exact HB.out|apply Qc|apply Qa|apply Qb)|exact HB.out)) hb);clear HB;have HO104:=n0_;have HB:=n1_;clear n0_ n1_;clear hb ho7))
   go_loopg [6,7] k (fun kq v6 v7 w'=>∃ (x6_1:List (List Int)) (x7_1:Int),v7= .int .i64 x7_1∧Aside0 (impl_ShareMore.l0 kq l0 a1 x6_1 x7_1=some (r1,r2))∧Aside0 (kq≤k)∧Aside0 (Kd.S (Kd.slice 3 (Kd.int .i64)) 23 w' w.heap.size (fun _=>True) v6 x6_1)∧Aside0 (Below w.heap.size w w'))
   case atStart=>exact ⟨(y102),((l0.length:Int)),(by first|rfl|(simp;done)|(simp [*];done)),H',⟨Nat.le_refl _⟩,⟨by (with_reducible repeat (first|apply Kd.S_alloc|apply Kd.S_drewN|apply Kd.S_drew));exact HO104.out⟩,⟨by repeat (first|(with_reducible first|exact HB.out|apply Qc|apply Qa|apply Qb)|exact HB.out)⟩⟩
   case round=>
    clear H';(try clear c1);(try clear c2);(try clear p2);(try clear c4);obtain ⟨x6_1,x7_1,rfl,HA,HK1,HO_6,HB⟩:=hrel
    cases gk with
    |zero=>exact absurd HA.out (by simp [impl_ShareMore.l0])
    |succ k1=>
     have H:=HA.out;clear HA;simp only [impl_ShareMore.l0] at H;by_cases c8:x7_1≤a1
     ·rw [if_pos c8] at H;have c8b0:decide (x7_1≤a1)=true:=decide_eq_true c8;clear c8;replace H:=Option.bind_eq_some_iff.mp H;obtain ⟨t105,A90,H⟩:=H;replace H:(if x6_1.length<5864062014805 then (impl_ShareMore.l0 k1 l0 a1 (x6_1 ++ [t105]) (wrap64 (x7_1+1))) else (none))=some (r1,r2):=H;have A9:=aM A90;clear A90;by_cases c10:x6_1.length<5864062014805
      ·rw [if_pos c10] at H;have LMc10:=aM c10;clear c10;obtain ⟨y108,hy108⟩:∃ y_:List (List Int),y_=(x6_1 ++ [t105]):=⟨_,rfl⟩;replace H:(impl_ShareMore.l0 k1 l0 a1 y108 (wrap64 (x7_1+1)))=some (r1,r2):=by first|(rw [hy108];with_reducible exact H)|(have H2_:=(Option.bind_some _ _).symm.trans H;rw [hy108];with_reducible exact H2_)|(have H2_:=(Option.bind_some _ _).symm.trans H;with_reducible exact H2_)|with_reducible exact H|(rw [hy108];exact H)|exact H
       have Ny108:=aM hy108;clear hy108;have H':=aM H;clear H;go_wp2_with (first|((with_reducible refine Qh (f:=109) rfl ?_);refine goesL_ (some 23) rfl rfl Try.func109 (by kernel_rfl) rfl #[.slice A0 l0.length c0,.int .i64 x7_1] rfl (by (try simp only [aD,aE,aF]);first|done|rfl|(simp only [aG,aH];rfl)) ?_;(with_reducible refine (impl_shareOut.calls k1 _ _ l0 x7_1 t105 _ ?side1 ?side2 A9.out).mono ?_);(case side1=>repeat (first|exact (Kd.C_below HR0.out HB.out)|(with_reducible refine Kd.C_alloc ?_ _)|(with_reducible refine Kd.C_drewN ?_ _)|(with_reducible refine Kd.C_drew ?_)));(case side2=>exact HC0.out);rintro e w11 ⟨v106,rfl,ho0,hb⟩;refine ⟨_,rfl,?_⟩;have n0_:=aM (Kd.S_elder' (by (with_reducible repeat (first|apply Kd.S_alloc|apply Kd.S_drewN|apply Kd.S_drew));exact HO_6.out) (Kd.R_base ho0) hb);have n1_:=aM (Kd.R_lower ho0 (Qj (by repeat (first|(with_reducible first|exact HB.out|apply Qc|apply Qa|apply Qb)|exact HB.out))));have n2_:=aM (Qi (by repeat (first|(with_reducible first|exact HB.out|apply Qc|apply Qa|apply Qb)|exact HB.out)) hb);clear HO_6;clear HB;have HO_6:=n0_;have HO107:=n1_;have HB:=n2_;clear n0_ n1_ n2_;(try clear hb);(try clear hb2);(try clear hk);(try clear hi);(try clear ho0);obtain ⟨Ao13,co13,eo13⟩:=Kd.R_slice HO107.out;subst eo13)|((with_reducible refine gate_builtin (b:= .append) (xs:=#[.tmp 20,.tmp 24]) rfl ?_);at_builtin;refine Kd.S_append (Kd.slice 3 (Kd.int .i64)) (w0:=w) w.heap.size rfl (.tmp 20) (.tmp 24) 28 23 (.slice none 0 0) 24 rfl Try.underlying28 info23 rfl (by decide) (by omega) u6 x6_1 t105 [.slice Ao13 t105.length co13] (fun _=>True) (fun k_=>some k_=(.slice Ao13 t105.length co13:Value).ownBlock) rfl rfl ?aP (fun k_ hk_=>((Kd.R_mono (ok':=fun k_=>((fun _=>True)) k_∧some k_≠(u6:Value).ownBlock) (Kd.R_apart' (HO107.out) (Kd.S_typed HO_6.out) (by decide)) (fun k_ hk=>⟨trivial,hk.2⟩))).1 k_ hk_.symm) ?aF ?aO ?aB ?aS ?aL ?_;(case aP=>exact Kd.M_row (Kd.R_mono (Kd.R_tight rfl (Kd.R_mono (ok':=fun k_=>((fun _=>True)) k_∧some k_≠(u6:Value).ownBlock) (Kd.R_apart' (HO107.out) (Kd.S_typed HO_6.out) (by decide)) (fun k_ hk=>⟨trivial,hk.2⟩))) (fun _ h_=>h_)));(case aB=>exact (by repeat (first|(with_reducible first|exact HB.out|apply Qc|apply Qa|apply Qb)|exact HB.out)));(case aF=>exact (fun _ _=>trivial));(case aO=>exact (by (with_reducible repeat (first|apply Kd.S_alloc|apply Kd.S_drewN|apply Kd.S_drew));exact Kd.S_mono HO_6.out (fun k_ hk=>⟨trivial,fun e_=>hk.2 e_⟩)));(case aS=>exact (Qj (by repeat (first|(with_reducible first|exact HB.out|apply Qc|apply Qa|apply Qb)|exact HB.out))));(case aL=>have:=LMc10.out;omega);intro v109 w12 ho hb hg hat;rw [←Ny108.out] at ho;have n0_:=aM (hb);have n1_:=aM (ho);clear HB;clear HO_6;clear HO107;have HB:=n0_;have HO110:=n1_;clear n0_ n1_;clear ho hb hg hat))
       go_roundg k1
       case measure=>have:=HK1.out;omega
       case rel=>exact ⟨(y108),(wrap64 (x7_1+1)),(by first|rfl|(simp;done)|(simp [*];done)),H',⟨by have:=HK1.out;omega⟩,⟨by (with_reducible repeat (first|apply Kd.S_alloc|apply Kd.S_drewN|apply Kd.S_drew));exact HO110.out⟩,⟨by repeat (first|(with_reducible first|exact HB.out|apply Qc|apply Qa|apply Qb)|exact HB.out)⟩⟩
      ·rw [if_neg c10] at H;exact absurd H (by simp)
     ·rw [if_neg c8] at H;have c8b0:decide (x7_1≤a1)=false:=decide_eq_false c8;clear c8;simp only [Option.some.injEq,Prod.mk.injEq] at H;obtain ⟨rfl,rfl⟩:=H;go_wp2
      go_ret2
      exact ⟨_,by first|rfl|(simp [errW_none,errW_some] <;> rfl)|(simp [*,errW_none,errW_some] <;> rfl),by (with_reducible repeat (first|apply Kd.S_alloc|apply Kd.S_drewN|apply Kd.S_drew));exact HO_6.out,by repeat (first|(with_reducible first|exact HB.out|apply Qc|apply Qa|apply Qb)|exact HB.out)⟩
  ·replace c4:=Bool.eq_false_iff.mpr c4;subst c4;have H1:(some (([]:List (List Int)),false))=some (r1,r2):=by rw [if_neg (show ¬ (false=true) by decide)] at H;exact H
   clear H;have H:=H1;clear H1;simp only [Option.some.injEq,Prod.mk.injEq] at H;obtain ⟨rfl,rfl⟩:=H;go_enter Try.func18,Try.ntmps18;go_wp2_with (first|((with_reducible refine Qh (f:=21) rfl ?_);refine goesL_ (some 10) rfl rfl Try.func21 (by kernel_rfl) rfl #[.slice A0 l0.length c0,.int .i64 a1] rfl (by (try simp only [aD,aE,aF]);first|done|rfl|(simp only [aG,aH];rfl)) ?_;(with_reducible refine (impl_GoodKinds.calls k _ _ l0 a1 false _ ?side1 ?side2 A3.out).mono ?_);(case side1=>repeat (first|exact HR0.out|(with_reducible refine Kd.C_alloc ?_ _)|(with_reducible refine Kd.C_drewN ?_ _)|(with_reducible refine Kd.C_drew ?_)));(case side2=>exact HC0.out);rintro e w14 ⟨rfl,hb⟩;refine ⟨_,rfl,?_⟩;have n0_:=aM (Qi (by repeat (first|(with_reducible first|exact HB.out|apply Qc|apply Qa|apply Qb)|exact HB.out)) hb);clear HB;have HB:=n0_;clear n0_;(try clear hb);(try clear hb2);(try clear hk);(try clear hi)))
   go_ret2
   exact ⟨_,by first|rfl|(simp [errW_none,errW_some] <;> rfl)|(simp [*,errW_none,errW_some] <;> rfl),by first|exact Kd.S_nil _ _ _ _ _|exact Kd.N_nil _ _ _ _ _|exact Kd.V_nil _ _ _ _ _|exact Kd.Q_nil _ _ _ _ _|exact Kd.R_nil _ _ _ _ _,by repeat (first|(with_reducible first|exact HB.out|apply Qc|apply Qa|apply Qb)|exact HB.out)⟩

def spec_l1In.f (a0:Int) (a1:Int) (a2:Int):Option (Bool):=if a0 ≥ a1 then (some (decide (a0≤a2))) else (some false)
set_option maxHeartbeats 8000000 in
set_option maxRecDepth 100000 in
theorem spec_l1In.calls (a0:Int) (a1:Int) (a2:Int) (r:Bool) (w:World) (h:spec_l1In.f a0 a1 a2=some r) :
    Calls Try.prog 152 #[.int .i64 a0,.int .i64 a1,.int .i64 a2] w fun e w'=>e= .returned (.bool r)∧Drawn0 w w':=by
  have H:(if a0 ≥ a1 then (some (decide (a0≤a2))) else (some false))=some r:=h;clear h;by_cases c4:a0 ≥ a1
  ·rw [if_pos c4] at H;have c4b0:decide (a1≤a0)=true:=decide_eq_true c4;clear c4;obtain rfl:=Option.some.inj H;go_enter Try.func152,Try.ntmps152;go_wp2
   go_ret
   exact ⟨by first|rfl|(simp;done)|(simp [*];done),by repeat (first|exact Drawn0.refl _|apply Drawn0.step)⟩
  ·rw [if_neg c4] at H;have c4b0:decide (a1≤a0)=false:=decide_eq_false c4;clear c4;obtain rfl:=Option.some.inj H;go_enter Try.func152,Try.ntmps152;go_wp2
   go_ret
   exact ⟨by first|rfl|(simp;done)|(simp [*];done),by repeat (first|exact Drawn0.refl _|apply Drawn0.step)⟩

def spec_l1All.l0:Nat→Int→Int→List Int→Int→Int→Option (Bool)
  |0,_,_,_,_,_=>none
  |k+1,x1,x2,x9,x10,x11=>if x11<x10 then (if 0≤x11 then (if x11<(x9.length:Int) then ((spec_l1In.f (rd x9 x11) x1 x2).bind fun t102=>(if t102=true then (spec_l1All.l0 k x1 x2 x9 x10 (wrap64 (x11+1))) else (some false))) else (none)) else (none)) else (some true)
def spec_l1All.f (k:Nat) (l0:List Int) (a1:Int) (a2:Int):Option (Bool):=spec_l1All.l0 k a1 a2 l0 (l0.length:Int) 0
set_option maxHeartbeats 8000000 in
set_option maxRecDepth 100000 in
theorem spec_l1All.calls (k:Nat) (A0:Option Addr) (c0:Nat) (l0:List Int) (a1:Int) (a2:Int) (r:Bool) (w:World) (hr0:Kd.C (Kd.int .i64) w A0 l0.length l0) (hc0:l0.length≤c0) (h:spec_l1All.f k l0 a1 a2=some r) :
    Calls Try.prog 125 #[.slice A0 l0.length c0,.int .i64 a1,.int .i64 a2] w fun e w'=>e= .returned (.bool r)∧Drawn0 w w':=by
  have HR0:=aM hr0;have HC0:=aM hc0;clear hr0 hc0;have H:(spec_l1All.l0 k a1 a2 l0 (l0.length:Int) 0)=some r:=h;clear h;have H':=aM H;clear H;go_enter Try.func125,Try.ntmps125;go_wp2;go_loopg [11] k (fun kq v11 w'=>∃ (x11_1:Int),v11= .int .i64 x11_1∧Aside0 (spec_l1All.l0 kq a1 a2 l0 (l0.length:Int) x11_1=some r)∧Aside0 (kq≤k)∧Drawn0 w w')
  case atStart=>exact ⟨(0),(by first|rfl|(simp;done)|(simp [*];done)),H',⟨Nat.le_refl _⟩,by repeat (first|exact Drawn0.refl _|apply Drawn0.step)⟩
  case round=>
   clear H';(try clear c1);(try clear p2);obtain ⟨x11_1,rfl,HA,HK1,⟨m1,rfl⟩⟩:=hrel
   cases gk with
   |zero=>exact absurd HA.out (by simp [spec_l1All.l0])
   |succ k1=>
    have H:=HA.out;clear HA;simp only [spec_l1All.l0] at H;by_cases c4:x11_1<(l0.length:Int)
    ·rw [if_pos c4] at H;have c4b0:decide (x11_1<(l0.length:Int))=true:=decide_eq_true c4;clear c4;by_cases c5:0≤x11_1
     ·rw [if_pos c5] at H;have c5b0:decide (0≤x11_1)=true:=decide_eq_true c5;clear c5;by_cases c6:x11_1<(l0.length:Int)
      ·rw [if_pos c6] at H;have c6b0:decide (x11_1<(l0.length:Int))=true:=decide_eq_true c6;clear c6;replace H:=Option.bind_eq_some_iff.mp H;obtain ⟨t102,A70,H⟩:=H;replace H:(if t102=true then (spec_l1All.l0 k1 a1 a2 l0 (l0.length:Int) (wrap64 (x11_1+1))) else (some false))=some r:=H;have A7:=aM A70;clear A70;by_cases c8:t102=true
       ·subst c8;have H1:(spec_l1All.l0 k1 a1 a2 l0 (l0.length:Int) (wrap64 (x11_1+1)))=some r:=by rw [if_pos rfl] at H;exact H
        clear H;have H:=H1;clear H1;have H':=aM H;clear H;have p101:0≤(x11_1:Int):=of_decide_eq_true (by first|(with_reducible assumption)|assumption);have q101:x11_1<(l0.length:Int):=of_decide_eq_true (by first|(with_reducible assumption)|assumption);obtain ⟨ad101,e101,hx101_0⟩:=Kd.at_int HR0.out x11_1 p101 q101
        cases e101
        replace p101:=eq_true p101;replace q101:=eq_true q101;go_wp2_with (first|((with_reducible refine Qh (f:=152) rfl ?_);refine goesL_ (some 18) rfl rfl Try.func152 (by kernel_rfl) rfl #[.int .i64 (rd l0 x11_1),.int .i64 a1,.int .i64 a2] rfl (by (try simp only [aD,aE,aF]);first|done|rfl|(simp only [aG,aH];rfl)) ?_;(with_reducible refine (spec_l1In.calls (rd l0 x11_1) a1 a2 true _ A7.out).mono ?_);rintro e w' ⟨rfl,⟨nd,rfl⟩⟩;refine ⟨_,rfl,?_⟩))
        go_roundg k1
        case measure=>have:=HK1.out;omega
        case rel=>exact ⟨(wrap64 (x11_1+1)),(by first|rfl|(simp;done)|(simp [*];done)),H',⟨by have:=HK1.out;omega⟩,by repeat (first|exact Drawn0.refl _|apply Drawn0.step)⟩
       ·replace c8:=Bool.eq_false_iff.mpr c8;subst c8;have H1:(some false)=some r:=by rw [if_neg (show ¬ (false=true) by decide)] at H;exact H
        clear H;have H:=H1;clear H1;obtain rfl:=Option.some.inj H;have p101:0≤(x11_1:Int):=of_decide_eq_true (by first|(with_reducible assumption)|assumption);have q101:x11_1<(l0.length:Int):=of_decide_eq_true (by first|(with_reducible assumption)|assumption);obtain ⟨ad101,e101,hx101_0⟩:=Kd.at_int HR0.out x11_1 p101 q101
        cases e101
        replace p101:=eq_true p101;replace q101:=eq_true q101;go_wp2_with (first|((with_reducible refine Qh (f:=152) rfl ?_);refine goesL_ (some 18) rfl rfl Try.func152 (by kernel_rfl) rfl #[.int .i64 (rd l0 x11_1),.int .i64 a1,.int .i64 a2] rfl (by (try simp only [aD,aE,aF]);first|done|rfl|(simp only [aG,aH];rfl)) ?_;(with_reducible refine (spec_l1In.calls (rd l0 x11_1) a1 a2 false _ A7.out).mono ?_);rintro e w' ⟨rfl,⟨nd,rfl⟩⟩;refine ⟨_,rfl,?_⟩))
        go_ret
        exact ⟨by first|rfl|(simp;done)|(simp [*];done),by repeat (first|exact Drawn0.refl _|apply Drawn0.step)⟩
      ·rw [if_neg c6] at H;exact absurd H (by simp)
     ·rw [if_neg c5] at H;exact absurd H (by simp)
    ·rw [if_neg c4] at H;have c4b0:decide (x11_1<(l0.length:Int))=false:=decide_eq_false c4;clear c4;obtain rfl:=Option.some.inj H;go_wp2
     go_ret
     exact ⟨by first|rfl|(simp;done)|(simp [*];done),by repeat (first|exact Drawn0.refl _|apply Drawn0.step)⟩

def spec_l4Flow.f (k:Nat) (l0:List Int):Option (Bool):=(spec_l1In.f (l0.length:Int) 1 8).bind fun t101=>(if t101=true then ((spec_l1All.f k l0 1 30).bind fun t102=>(some t102)) else (some false))
set_option maxHeartbeats 8000000 in
set_option maxRecDepth 100000 in
theorem spec_l4Flow.calls (k:Nat) (A0:Option Addr) (c0:Nat) (l0:List Int) (r:Bool) (w:World) (hr0:Kd.C (Kd.int .i64) w A0 l0.length l0) (hc0:l0.length≤c0) (h:spec_l4Flow.f k l0=some r) :
    Calls Try.prog 124 #[.slice A0 l0.length c0] w fun e w'=>e= .returned (.bool r)∧Drawn0 w w':=by
  have HR0:=aM hr0;have HC0:=aM hc0;clear hr0 hc0;have H:((spec_l1In.f (l0.length:Int) 1 8).bind fun t101=>(if t101=true then ((spec_l1All.f k l0 1 30).bind fun t102=>(some t102)) else (some false)))=some r:=h;clear h;replace H:=Option.bind_eq_some_iff.mp H;obtain ⟨t101,A20,H⟩:=H;replace H:(if t101=true then ((spec_l1All.f k l0 1 30).bind fun t102=>(some t102)) else (some false))=some r:=H;have A2:=aM A20;clear A20;by_cases c3:t101=true
  ·subst c3;have H1:((spec_l1All.f k l0 1 30).bind fun t102=>(some t102))=some r:=by rw [if_pos rfl] at H;exact H
   clear H;have H:=H1;clear H1;replace H:=Option.bind_eq_some_iff.mp H;obtain ⟨t102,A40,H⟩:=H;replace H:(some t102)=some r:=H;have A4:=aM A40;clear A40;obtain rfl:=Option.some.inj H;go_enter Try.func124,Try.ntmps124;go_wp2_with (first|((with_reducible refine Qh (f:=152) rfl ?_);refine goesL_ (some 5) rfl rfl Try.func152 (by kernel_rfl) rfl #[.int .i64 (l0.length:Int),.int .i64 1,.int .i64 8] rfl (by (try simp only [aD,aE,aF]);first|done|rfl|(simp only [aG,aH];rfl)) ?_;(with_reducible refine (spec_l1In.calls (l0.length:Int) 1 8 true _ A2.out).mono ?_);rintro e w' ⟨rfl,⟨nd,rfl⟩⟩;refine ⟨_,rfl,?_⟩)|(go_at_call 125;(with_reducible refine (spec_l1All.calls k _ _ l0 1 30 t102 _ ?side1 ?side2 A4.out).mono ?_);(case side1=>repeat (first|exact HR0.out|(with_reducible refine Kd.C_alloc ?_ _)|(with_reducible refine Kd.C_drewN ?_ _)|(with_reducible refine Kd.C_drew ?_)));(case side2=>exact HC0.out);rintro e w' ⟨rfl,⟨nd,rfl⟩⟩))
   go_ret
   exact ⟨by first|rfl|(simp;done)|(simp [*];done),by repeat (first|exact Drawn0.refl _|apply Drawn0.step)⟩
  ·replace c3:=Bool.eq_false_iff.mpr c3;subst c3;have H1:(some false)=some r:=by rw [if_neg (show ¬ (false=true) by decide)] at H;exact H
   clear H;have H:=H1;clear H1;obtain rfl:=Option.some.inj H;go_enter Try.func124,Try.ntmps124;go_wp2_with (first|((with_reducible refine Qh (f:=152) rfl ?_);refine goesL_ (some 5) rfl rfl Try.func152 (by kernel_rfl) rfl #[.int .i64 (l0.length:Int),.int .i64 1,.int .i64 8] rfl (by (try simp only [aD,aE,aF]);first|done|rfl|(simp only [aG,aH];rfl)) ?_;(with_reducible refine (spec_l1In.calls (l0.length:Int) 1 8 false _ A2.out).mono ?_);rintro e w' ⟨rfl,⟨nd,rfl⟩⟩;refine ⟨_,rfl,?_⟩))
   go_ret
   exact ⟨by first|rfl|(simp;done)|(simp [*];done),by repeat (first|exact Drawn0.refl _|apply Drawn0.step)⟩

def spec_GoodKinds.f (k:Nat) (l0:List Int) (a1:Int):Option (Bool):=(spec_l4Flow.f k l0).bind fun t101=>(if t101=true then ((spec_l1In.f a1 (l0.length:Int) 40).bind fun t102=>(some t102)) else (some false))
set_option maxHeartbeats 8000000 in
set_option maxRecDepth 100000 in
theorem spec_GoodKinds.calls (k:Nat) (A0:Option Addr) (c0:Nat) (l0:List Int) (a1:Int) (r:Bool) (w:World) (hr0:Kd.C (Kd.int .i64) w A0 l0.length l0) (hc0:l0.length≤c0) (h:spec_GoodKinds.f k l0 a1=some r) :
    Calls Try.prog 110 #[.slice A0 l0.length c0,.int .i64 a1] w fun e w'=>e= .returned (.bool r)∧Drawn0 w w':=by
  have HR0:=aM hr0;have HC0:=aM hc0;clear hr0 hc0;have H:((spec_l4Flow.f k l0).bind fun t101=>(if t101=true then ((spec_l1In.f a1 (l0.length:Int) 40).bind fun t102=>(some t102)) else (some false)))=some r:=h;clear h;replace H:=Option.bind_eq_some_iff.mp H;obtain ⟨t101,A30,H⟩:=H;replace H:(if t101=true then ((spec_l1In.f a1 (l0.length:Int) 40).bind fun t102=>(some t102)) else (some false))=some r:=H;have A3:=aM A30;clear A30;by_cases c4:t101=true
  ·subst c4;have H1:((spec_l1In.f a1 (l0.length:Int) 40).bind fun t102=>(some t102))=some r:=by rw [if_pos rfl] at H;exact H
   clear H;have H:=H1;clear H1;replace H:=Option.bind_eq_some_iff.mp H;obtain ⟨t102,A50,H⟩:=H;replace H:(some t102)=some r:=H;have A5:=aM A50;clear A50;obtain rfl:=Option.some.inj H;go_enter Try.func110,Try.ntmps110;go_wp2_with (first|((with_reducible refine Qh (f:=124) rfl ?_);refine goesL_ (some 6) rfl rfl Try.func124 (by kernel_rfl) rfl #[.slice A0 l0.length c0] rfl (by (try simp only [aD,aE,aF]);first|done|rfl|(simp only [aG,aH];rfl)) ?_;(with_reducible refine (spec_l4Flow.calls k _ _ l0 true _ ?side1 ?side2 A3.out).mono ?_);(case side1=>repeat (first|exact HR0.out|(with_reducible refine Kd.C_alloc ?_ _)|(with_reducible refine Kd.C_drewN ?_ _)|(with_reducible refine Kd.C_drew ?_)));(case side2=>exact HC0.out);rintro e w' ⟨rfl,⟨nd,rfl⟩⟩;refine ⟨_,rfl,?_⟩)|(go_at_call 152;(with_reducible refine (spec_l1In.calls a1 (l0.length:Int) 40 t102 _ A5.out).mono ?_);rintro e w' ⟨rfl,⟨nd,rfl⟩⟩))
   go_ret
   exact ⟨by first|rfl|(simp;done)|(simp [*];done),by repeat (first|exact Drawn0.refl _|apply Drawn0.step)⟩
  ·replace c4:=Bool.eq_false_iff.mpr c4;subst c4;have H1:(some false)=some r:=by rw [if_neg (show ¬ (false=true) by decide)] at H;exact H
   clear H;have H:=H1;clear H1;obtain rfl:=Option.some.inj H;go_enter Try.func110,Try.ntmps110;go_wp2_with (first|((with_reducible refine Qh (f:=124) rfl ?_);refine goesL_ (some 6) rfl rfl Try.func124 (by kernel_rfl) rfl #[.slice A0 l0.length c0] rfl (by (try simp only [aD,aE,aF]);first|done|rfl|(simp only [aG,aH];rfl)) ?_;(with_reducible refine (spec_l4Flow.calls k _ _ l0 false _ ?side1 ?side2 A3.out).mono ?_);(case side1=>repeat (first|exact HR0.out|(with_reducible refine Kd.C_alloc ?_ _)|(with_reducible refine Kd.C_drewN ?_ _)|(with_reducible refine Kd.C_drew ?_)));(case side2=>exact HC0.out);rintro e w' ⟨rfl,⟨nd,rfl⟩⟩;refine ⟨_,rfl,?_⟩))
   go_ret
   exact ⟨by first|rfl|(simp;done)|(simp [*];done),by repeat (first|exact Drawn0.refl _|apply Drawn0.step)⟩

def spec_l1Less.f (a0_0:Int) (a0_1:Int) (a1_0:Int) (a1_1:Int):Option (Bool):=some (decide ((wrap64 (a0_0 * a1_1))<(wrap64 (a1_0 * a0_1))))
set_option maxHeartbeats 8000000 in
set_option maxRecDepth 100000 in
theorem spec_l1Less.calls (a0_0:Int) (a0_1:Int) (a1_0:Int) (a1_1:Int) (r:Bool) (w:World) (h:spec_l1Less.f a0_0 a0_1 a1_0 a1_1=some r) :
    Calls Try.prog 231 #[.agg #[.int .i64 a0_0,.int .i64 a0_1],.agg #[.int .i64 a1_0,.int .i64 a1_1]] w fun e w'=>e= .returned (.bool r)∧Below w.heap.size w w':=by
  have hu35:=Try.underlying35;have HB:=aM (Below.refl w.heap.size w);have H:(some (decide ((wrap64 (a0_0 * a1_1))<(wrap64 (a1_0 * a0_1)))))=some r:=h;clear h;obtain rfl:=Option.some.inj H;go_enter Try.func231,Try.ntmps231;go_wp2_with (first|((with_reducible refine gate_dst (N:=2) rfl ?_);refine box_event ?hg (N:=2) ?hd (cs:=#[.int .i64 a0_0,.int .i64 a0_1]) (t:=35) ?hr ?_;(case hd=>rfl);(case hg=>rfl);(case hr=>first|(go_simp;done)|(go_simp;rfl));intro gb101 hg w3 hbox hb;have n0_:=aM (Qi (by repeat (first|(with_reducible first|exact HB.out|apply Qc|apply Qa|apply Qb)|exact HB.out)) hb);have n1_:=aM (hbox);have n2_:=aM ((by rw [hg];exact (Qj (by repeat (first|(with_reducible first|exact HB.out|apply Qc|apply Qa|apply Qb)|exact HB.out))):w.heap.size≤gb101));have n3_:=aM ((by rw [hg];exact (Qj (by repeat (first|(with_reducible first|exact HB.out|apply Qc|apply Qa|apply Qb)|exact HB.out))):w.heap.size≤gb101));clear HB;have HB:=n0_;have BK101:=n1_;have GW101:=n2_;have GE101:=n3_;clear n0_ n1_ n2_ n3_;clear hb hbox hg)|((with_reducible refine gate_dst (N:=3) rfl ?_);refine box_event ?hg (N:=3) ?hd (cs:=#[.int .i64 a1_0,.int .i64 a1_1]) (t:=35) ?hr ?_;(case hd=>rfl);(case hg=>rfl);(case hr=>first|(go_simp;done)|(go_simp;rfl));intro gb102 hg w4 hbox hb;have n0_:=aM (blk_below (g:=gb101) (o:= .cells #[.int .i64 a0_0,.int .i64 a0_1] 35 (0,0)) (by (with_reducible repeat (first|apply Qe|apply Qf|apply Qd));exact BK101.out) hb);have n1_:=aM (Qi (by repeat (first|(with_reducible first|exact HB.out|apply Qc|apply Qa|apply Qb|refine Qg ?_ GE101.out)|exact HB.out)) hb);have n2_:=aM (hbox);have n3_:=aM ((by rw [hg];exact (Qj (by repeat (first|(with_reducible first|exact HB.out|apply Qc|apply Qa|apply Qb|refine Qg ?_ GE101.out)|exact HB.out))):w.heap.size≤gb102));have n4_:=aM ((by rw [hg];exact (Qj (by repeat (first|(with_reducible first|exact HB.out|apply Qc|apply Qa|apply Qb|refine Qg ?_ GE101.out)|exact HB.out))):w.heap.size≤gb102));have n5_:=aM ((by rw [hg];exact Nat.ne_of_lt (blk_lt (g:=gb101) (o:= .cells #[.int .i64 a0_0,.int .i64 a0_1] 35 (0,0)) (by (with_reducible repeat (first|apply Qe|apply Qf|apply Qd));exact BK101.out)):gb101≠gb102));have n6_:=aM ((by rw [hg];exact Nat.ne_of_gt (blk_lt (g:=gb101) (o:= .cells #[.int .i64 a0_0,.int .i64 a0_1] 35 (0,0)) (by (with_reducible repeat (first|apply Qe|apply Qf|apply Qd));exact BK101.out)):gb102≠gb101));clear BK101;clear HB;have BK101:=n0_;have HB:=n1_;have BK102:=n2_;have GW102:=n3_;have GE102:=n4_;have NB101_102:=n5_;have NB102_101:=n6_;clear n0_ n1_ n2_ n3_ n4_ n5_ n6_;clear hb hbox hg;have hnb5:=NB101_102.out;have hnc5:=NB102_101.out;have hcz6_0:w4.cell? ⟨gb101,0,none⟩=some (.int .i64 a0_0):=(blk_cell BK101.out 0).trans rfl;have hcz6_1:w4.cell? ⟨gb101,1,none⟩=some (.int .i64 a0_1):=(blk_cell BK101.out 1).trans rfl;have hfz6_0:=Qk BK101.out 0;have hfz6_1:=Qk BK101.out 1;have hcz7_0:w4.cell? ⟨gb102,0,none⟩=some (.int .i64 a1_0):=(blk_cell BK102.out 0).trans rfl;have hcz7_1:w4.cell? ⟨gb102,1,none⟩=some (.int .i64 a1_1):=(blk_cell BK102.out 1).trans rfl;have hfz7_0:=Qk BK102.out 0;have hfz7_1:=Qk BK102.out 1))
  go_ret
  exact ⟨by first|rfl|(simp [errW_none,errW_some] <;> rfl)|(simp [*,errW_none,errW_some] <;> rfl),by repeat (first|(with_reducible first|exact HB.out|apply Qc|apply Qa|apply Qb|refine Qg ?_ GE101.out|refine Qg ?_ GE102.out)|exact HB.out)⟩

def spec_l1Abs.f (a0:Int):Option (Int):=if a0<0 then (some (wrap64 (-a0))) else (some a0)
set_option maxHeartbeats 8000000 in
set_option maxRecDepth 100000 in
theorem spec_l1Abs.calls (a0:Int) (r:Int) (w:World) (h:spec_l1Abs.f a0=some r) :
    Calls Try.prog 236 #[.int .i64 a0] w fun e w'=>e= .returned (.int .i64 r)∧Drawn0 w w':=by
  have H:(if a0<0 then (some (wrap64 (-a0))) else (some a0))=some r:=h;clear h;by_cases c2:a0<0
  ·rw [if_pos c2] at H;have c2b0:decide (a0<0)=true:=decide_eq_true c2;clear c2;obtain rfl:=Option.some.inj H;go_enter Try.func236,Try.ntmps236;go_wp2
   go_ret
   exact ⟨by first|rfl|(simp;done)|(simp [*];done),by repeat (first|exact Drawn0.refl _|apply Drawn0.step)⟩
  ·rw [if_neg c2] at H;have c2b0:decide (a0<0)=false:=decide_eq_false c2;clear c2;obtain rfl:=Option.some.inj H;go_enter Try.func236,Try.ntmps236;go_wp2
   go_ret
   exact ⟨by first|rfl|(simp;done)|(simp [*];done),by repeat (first|exact Drawn0.refl _|apply Drawn0.step)⟩

def spec_l1Gcd.l0:Nat→Int→Int→Option (Int)
  |0,_,_=>none
  |k+1,x0,x1=>if x1 > 0 then (if x1=0 then (none) else (spec_l1Gcd.l0 k x1 (Int.tmod x0 x1))) else (some x0)
def spec_l1Gcd.f (k:Nat) (a0:Int) (a1:Int):Option (Int):=(spec_l1Abs.f a0).bind fun t101=>((spec_l1Abs.f a1).bind fun t102=>(spec_l1Gcd.l0 k t101 t102))
set_option maxHeartbeats 8000000 in
set_option maxRecDepth 100000 in
theorem spec_l1Gcd.calls (k:Nat) (a0:Int) (a1:Int) (r:Int) (w:World) (h:spec_l1Gcd.f k a0 a1=some r) :
    Calls Try.prog 210 #[.int .i64 a0,.int .i64 a1] w fun e w'=>e= .returned (.int .i64 r)∧Drawn0 w w':=by
  have H:((spec_l1Abs.f a0).bind fun t101=>((spec_l1Abs.f a1).bind fun t102=>(spec_l1Gcd.l0 k t101 t102)))=some r:=h;clear h;replace H:=Option.bind_eq_some_iff.mp H;obtain ⟨t101,A30,H⟩:=H;replace H:((spec_l1Abs.f a1).bind fun t102=>(spec_l1Gcd.l0 k t101 t102))=some r:=H;have A3:=aM A30;clear A30;replace H:=Option.bind_eq_some_iff.mp H;obtain ⟨t102,A40,H⟩:=H;replace H:(spec_l1Gcd.l0 k t101 t102)=some r:=H;have A4:=aM A40;clear A40;have H':=aM H;clear H;go_enter Try.func210,Try.ntmps210;go_wp2_with (first|((with_reducible refine Qh (f:=236) rfl ?_);refine goesL_ (some 7) rfl rfl Try.func236 (by kernel_rfl) rfl #[.int .i64 a0] rfl (by (try simp only [aD,aE,aF]);first|done|rfl|(simp only [aG,aH];rfl)) ?_;(with_reducible refine (spec_l1Abs.calls a0 t101 _ A3.out).mono ?_);rintro e w' ⟨rfl,⟨nd,rfl⟩⟩;refine ⟨_,rfl,?_⟩)|((with_reducible refine Qh (f:=236) rfl ?_);refine goesL_ (some 9) rfl rfl Try.func236 (by kernel_rfl) rfl #[.int .i64 a1] rfl (by (try simp only [aD,aE,aF]);first|done|rfl|(simp only [aG,aH];rfl)) ?_;(with_reducible refine (spec_l1Abs.calls a1 t102 _ A4.out).mono ?_);rintro e w' ⟨rfl,⟨nd,rfl⟩⟩;refine ⟨_,rfl,?_⟩))
  go_loopg [0,1] k (fun kq v0 v1 w'=>∃ (x0_1:Int) (x1_1:Int),v0= .int .i64 x0_1∧v1= .int .i64 x1_1∧Aside0 (spec_l1Gcd.l0 kq x0_1 x1_1=some r)∧Aside0 (kq≤k)∧Drawn0 w w')
  case atStart=>exact ⟨(t101),(t102),(by first|rfl|(simp;done)|(simp [*];done)),(by first|rfl|(simp;done)|(simp [*];done)),H',⟨Nat.le_refl _⟩,by repeat (first|exact Drawn0.refl _|apply Drawn0.step)⟩
  case round=>
   clear H';(try clear c2);(try clear p2);obtain ⟨x0_1,x1_1,rfl,rfl,HA,HK1,⟨m1,rfl⟩⟩:=hrel
   cases gk with
   |zero=>exact absurd HA.out (by simp [spec_l1Gcd.l0])
   |succ k1=>
    have H:=HA.out;clear HA;simp only [spec_l1Gcd.l0] at H;by_cases c5:x1_1 > 0
    ·rw [if_pos c5] at H;have c5b0:decide (0<x1_1)=true:=decide_eq_true c5;clear c5;by_cases c6:x1_1=0
     ·rw [if_pos c6] at H;exact absurd H (by simp)
     ·rw [if_neg c6] at H;have c6b0:(x1_1 == 0)=false:=beq_eq_false_iff_ne.mpr c6;have c6b1:(x1_1 != 0)=true:=bne_iff_ne.mpr c6;have H':=aM H;clear H;go_wp2;go_roundg k1
      case measure=>have:=HK1.out;omega
      case rel=>exact ⟨(x1_1),(Int.tmod x0_1 x1_1),(by first|rfl|(simp;done)|(simp [*];done)),(by first|rfl|(simp;done)|(simp [*];done)),H',⟨by have:=HK1.out;omega⟩,by repeat (first|exact Drawn0.refl _|apply Drawn0.step)⟩
    ·rw [if_neg c5] at H;have c5b0:decide (0<x1_1)=false:=decide_eq_false c5;clear c5;obtain rfl:=Option.some.inj H;go_wp2
     go_ret
     exact ⟨by first|rfl|(simp;done)|(simp [*];done),by repeat (first|exact Drawn0.refl _|apply Drawn0.step)⟩

def spec_l1Make.f (k:Nat) (a0:Int) (a1:Int):Option (Int×Int):=if a1<0 then ((spec_l1Gcd.f k (wrap64 (-a0)) (wrap64 (-a1))).bind fun t102=>(if t102=0 then (none) else (some (wrap64 (Int.tdiv (wrap64 (-a0)) t102),wrap64 (Int.tdiv (wrap64 (-a1)) t102))))) else ((spec_l1Gcd.f k a0 a1).bind fun t103=>(if t103=0 then (none) else (some (wrap64 (Int.tdiv a0 t103),wrap64 (Int.tdiv a1 t103)))))
def spec_l1Make.T5:Bool×List (List Nat×List Nat):=(true,[([],[]),([],[]),([0,1],[0,1]),([],[]),([],[]),([3,4],[3,4]),([2,5],[2,5]),([6,0,1,2,3,4,5,6],[6])])
def spec_l1Make.B5:List Nat:=[0,0,3,0,0,24,63,127]
theorem spec_l1Make.tab5:rtab .any (opsOf Try.f126 5)=spec_l1Make.T5:=by kernel_rfl
theorem spec_l1Make.bits5:waitsOk spec_l1Make.T5.2 spec_l1Make.B5=true:=by kernel_rfl
set_option maxHeartbeats 8000000 in
set_option maxRecDepth 100000 in
theorem spec_l1Make.calls (k:Nat) (a0:Int) (a1:Int) (r1:Int) (r2:Int) (w:World) (h:spec_l1Make.f k a0 a1=some (r1,r2)) :
    Calls Try.prog 126 #[.int .i64 a0,.int .i64 a1] w fun e w'=>e= .returned (.agg #[.int .i64 r1,.int .i64 r2])∧Below w.heap.size w w':=by
  have hu35:=Try.underlying35;have HB:=aM (Below.refl w.heap.size w);have H:(if a1<0 then ((spec_l1Gcd.f k (wrap64 (-a0)) (wrap64 (-a1))).bind fun t102=>(if t102=0 then (none) else (some (wrap64 (Int.tdiv (wrap64 (-a0)) t102),wrap64 (Int.tdiv (wrap64 (-a1)) t102))))) else ((spec_l1Gcd.f k a0 a1).bind fun t103=>(if t103=0 then (none) else (some (wrap64 (Int.tdiv a0 t103),wrap64 (Int.tdiv a1 t103))))))=some (r1,r2):=h;clear h;by_cases c3:a1<0
  ·rw [if_pos c3] at H;have c3b0:decide (a1<0)=true:=decide_eq_true c3;clear c3;replace H:=Option.bind_eq_some_iff.mp H;obtain ⟨t102,A40,H⟩:=H;replace H:(if t102=0 then (none) else (some (wrap64 (Int.tdiv (wrap64 (-a0)) t102),wrap64 (Int.tdiv (wrap64 (-a1)) t102))))=some (r1,r2):=H;have A4:=aM A40;clear A40;by_cases c5:t102=0
   ·rw [if_pos c5] at H;exact absurd H (by simp)
   ·rw [if_neg c5] at H;have c5b0:(t102 == 0)=false:=beq_eq_false_iff_ne.mpr c5;have c5b1:(t102 != 0)=true:=bne_iff_ne.mpr c5;simp only [Option.some.injEq,Prod.mk.injEq] at H;obtain ⟨rfl,rfl⟩:=H;go_enter Try.func126,Try.ntmps126
    try go_wp2_with (first|((with_reducible refine gate_dst (N:=4) rfl ?_);refine box_event ?hg (N:=4) ?hd (cs:=#[.int .i64 0,.int .i64 0]) (t:=35) ?hr ?_;(case hd=>rfl);(case hg=>rfl);(case hr=>first|(go_simp;done)|(go_simp;rfl));intro gb101 hg w6 hbox hb;have n0_:=aM (Qi (by repeat (first|(with_reducible first|exact HB.out|apply Qc|apply Qa|apply Qb)|exact HB.out)) hb);have n1_:=aM (hbox);have n2_:=aM ((by rw [hg];exact (Qj (by repeat (first|(with_reducible first|exact HB.out|apply Qc|apply Qa|apply Qb)|exact HB.out))):w.heap.size≤gb101));have n3_:=aM ((by rw [hg];exact (Qj (by repeat (first|(with_reducible first|exact HB.out|apply Qc|apply Qa|apply Qb)|exact HB.out))):w.heap.size≤gb101));clear HB;have HB:=n0_;have BK101:=n1_;have GW101:=n2_;have GE101:=n3_;clear n0_ n1_ n2_ n3_;clear hb hbox hg)|((with_reducible refine Qh (f:=210) rfl ?_);refine goesL_ (some 14) rfl rfl Try.func210 (by kernel_rfl) rfl #[.int .i64 (wrap64 (-a0)),.int .i64 (wrap64 (-a1))] rfl (by (try simp only [aD,aE,aF]);first|done|rfl|(simp only [aG,aH];rfl)) ?_;(with_reducible refine (spec_l1Gcd.calls k (wrap64 (-a0)) (wrap64 (-a1)) t102 _ A4.out).mono ?_);rintro e w' ⟨rfl,⟨nd,rfl⟩⟩;refine ⟨_,rfl,?_⟩;(try (rw [drewN_self w6];generalize hq_:World.drewN w6 _=w6;have n0_:Aside0 (w6.heap[gb101]? = some (.cells #[.int .i64 0,.int .i64 0] 35 (0,0))):=⟨by rw [←hq_];exact (by (with_reducible repeat (first|apply Qe|apply Qf|apply Qd));exact BK101.out)⟩;have n1_:Aside0 (Below w.heap.size w w6):=⟨by rw [←hq_];exact (by repeat (first|(with_reducible first|exact HB.out|apply Qc|apply Qa|apply Qb|refine Qg ?_ GE101.out)|exact HB.out))⟩;clear BK101 HB hq_;have BK101:=n0_;have HB:=n1_;clear n0_ n1_))))
    have n0_:=aM (Qf BK101.out);have n1_:=aM (Qb HB.out);clear BK101;clear HB;have BK101:=n0_;have HB:=n1_;clear n0_ n1_;refine start_ (n:=8) (S:=fun w'=>True) (ds:=[]) #[false,false,false,false,false,false,false,false] (by kernel_rfl) rfl rfl trivial (fun hHeld=>?_);refine with_tabW spec_l1Make.tab5 spec_l1Make.bits5 (fun HT_ HW_=>?_)
    generalize w6.drew=w7 at BK101 HB hHeld ⊢
    refine pure_ (i:=0) (N:=some 15) (v:=?_) (a':=?_) #[true,false,false,false,false,false,false,false] rfl rfl (any_of HT_.out (by kernel_rfl)) (fun _ _ _ h=>h) (Or.inl ⟨by rfl,?_⟩) ?_ ?_
    rotate_left
    ·intro w'
     go_simp
     with_reducible rfl
    rotate_left
    ·simp only [Act.put,aA,aB,aC,i64_w,i32_w]
     rfl
    refine pure_ (i:=1) (N:=some 16) (v:=?_) (a':=?_) #[true,true,false,false,false,false,false,false] rfl rfl (any_of HT_.out (by kernel_rfl)) (fun _ _ _ h=>h) (Or.inl ⟨by rfl,?_⟩) ?_ ?_
    rotate_left
    ·intro w'
     go_simp
     with_reducible rfl
    rotate_left
    ·simp only [Act.put,aA,aB,aC,i64_w,i32_w]
     rfl
    refine pure_ (i:=2) (N:=some 17) (v:=?_) (a':=?_) #[true,true,true,false,false,false,false,false] rfl rfl (any_of HT_.out (by kernel_rfl)) (fun _ _ _ h=>h) (Or.inl ⟨by rfl,?_⟩) ?_ ?_
    rotate_left
    ·intro w'
     go_simp
     with_reducible rfl
    rotate_left
    ·simp only [Act.put,aA,aB,aC,i64_w,i32_w]
     rfl
    refine pure_ (i:=3) (N:=some 18) (v:=?_) (a':=?_) #[true,true,true,true,false,false,false,false] rfl rfl (any_of HT_.out (by kernel_rfl)) (fun _ _ _ h=>h) (Or.inl ⟨by rfl,?_⟩) ?_ ?_
    rotate_left
    ·intro w'
     go_simp
     with_reducible rfl
    rotate_left
    ·simp only [Act.put,aA,aB,aC,i64_w,i32_w]
     rfl
    refine pure_ (i:=4) (N:=some 19) (v:=?_) (a':=?_) #[true,true,true,true,true,false,false,false] rfl rfl (any_of HT_.out (by kernel_rfl)) (fun _ _ _ h=>h) (Or.inl ⟨by rfl,?_⟩) ?_ ?_
    rotate_left
    ·intro w'
     go_simp
     with_reducible rfl
    rotate_left
    ·simp only [Act.put,aA,aB,aC,i64_w,i32_w]
     rfl
    refine pure_ (i:=5) (N:=some 20) (v:=?_) (a':=?_) #[true,true,true,true,true,true,false,false] rfl rfl (any_of HT_.out (by kernel_rfl)) (fun _ _ _ h=>h) (Or.inl ⟨by rfl,?_⟩) ?_ ?_
    rotate_left
    ·intro w'
     go_simp
     with_reducible rfl
    rotate_left
    ·simp only [Act.put,aA,aB,aC,i64_w,i32_w]
     rfl
    refine pure_ (i:=6) (N:=some 21) (v:=?_) (a':=?_) #[true,true,true,true,true,true,true,false] rfl rfl (any_of HT_.out (by kernel_rfl)) (fun _ _ _ h=>h) (Or.inl ⟨by rfl,?_⟩) ?_ ?_
    rotate_left
    ·intro w'
     go_simp
     with_reducible rfl
    rotate_left
    ·simp only [Act.put,aA,aB,aC,i64_w,i32_w]
     rfl
    refine one_ (i:=7) (N:=none) #[true,true,true,true,true,true,true,true] rfl rfl (one_of HT_.out (by kernel_rfl)) (by decide) (fun K hK=>?_);have hs8:w7.cell? ⟨gb101,0,none⟩=some (.int .i64 0):=(blk_cell BK101.out 0).trans rfl;have hfs8:=Qk BK101.out 0;have hs9:w7.cell? ⟨gb101,1,none⟩=some (.int .i64 0):=(blk_cell BK101.out 1).trans rfl;have hfs9:=Qk BK101.out 1;refine skip_ (w1:=?_) (by rfl) rfl ?_ ?_
    rotate_left
    ·go_simp
     rfl
    refine hK.out _ _ trivial (fun hHeld=>?_);clear hK K;refine done_ (done_of HT_.out (by kernel_rfl)) ?_
    try go_wp2
    refine bodyPost_ret (results_cell_row rfl _ _ gb101 35 #[.int .i64 (wrap64 (Int.tdiv (wrap64 (-a0)) t102)),.int .i64 (wrap64 (Int.tdiv (wrap64 (-a1)) t102))] (0,0) _ rfl (by (with_reducible repeat (first|apply Qe|apply Qf|apply Qd));refine blk_put (cs:=#[.int .i64 (wrap64 (Int.tdiv (wrap64 (-a0)) t102)),.int .i64 0]) ?_ 1 _ rfl;(with_reducible repeat (first|apply Qe|apply Qf|apply Qd));refine blk_put (cs:=#[.int .i64 0,.int .i64 0]) ?_ 0 _ rfl;(with_reducible repeat (first|apply Qe|apply Qf|apply Qd));exact BK101.out) Try.underlying35 rfl (by kernel_rfl)) rfl ?_;exact ⟨by first|rfl|(simp [errW_none,errW_some] <;> rfl)|(simp [*,errW_none,errW_some] <;> rfl),by repeat (first|(with_reducible first|exact HB.out|apply Qc|apply Qa|apply Qb|refine Qg ?_ GE101.out)|exact HB.out)⟩
  ·rw [if_neg c3] at H;have c3b0:decide (a1<0)=false:=decide_eq_false c3;clear c3;replace H:=Option.bind_eq_some_iff.mp H;obtain ⟨t103,A100,H⟩:=H;replace H:(if t103=0 then (none) else (some (wrap64 (Int.tdiv a0 t103),wrap64 (Int.tdiv a1 t103))))=some (r1,r2):=H;have A10:=aM A100;clear A100;by_cases c11:t103=0
   ·rw [if_pos c11] at H;exact absurd H (by simp)
   ·rw [if_neg c11] at H;have c11b0:(t103 == 0)=false:=beq_eq_false_iff_ne.mpr c11;have c11b1:(t103 != 0)=true:=bne_iff_ne.mpr c11;simp only [Option.some.injEq,Prod.mk.injEq] at H;obtain ⟨rfl,rfl⟩:=H;go_enter Try.func126,Try.ntmps126
    try go_wp2_with (first|((with_reducible refine gate_dst (N:=4) rfl ?_);refine box_event ?hg (N:=4) ?hd (cs:=#[.int .i64 0,.int .i64 0]) (t:=35) ?hr ?_;(case hd=>rfl);(case hg=>rfl);(case hr=>first|(go_simp;done)|(go_simp;rfl));intro gb101 hg w12 hbox hb;have n0_:=aM (Qi (by repeat (first|(with_reducible first|exact HB.out|apply Qc|apply Qa|apply Qb)|exact HB.out)) hb);have n1_:=aM (hbox);have n2_:=aM ((by rw [hg];exact (Qj (by repeat (first|(with_reducible first|exact HB.out|apply Qc|apply Qa|apply Qb)|exact HB.out))):w.heap.size≤gb101));have n3_:=aM ((by rw [hg];exact (Qj (by repeat (first|(with_reducible first|exact HB.out|apply Qc|apply Qa|apply Qb)|exact HB.out))):w.heap.size≤gb101));clear HB;have HB:=n0_;have BK101:=n1_;have GW101:=n2_;have GE101:=n3_;clear n0_ n1_ n2_ n3_;clear hb hbox hg)|((with_reducible refine Qh (f:=210) rfl ?_);refine goesL_ (some 14) rfl rfl Try.func210 (by kernel_rfl) rfl #[.int .i64 a0,.int .i64 a1] rfl (by (try simp only [aD,aE,aF]);first|done|rfl|(simp only [aG,aH];rfl)) ?_;(with_reducible refine (spec_l1Gcd.calls k a0 a1 t103 _ A10.out).mono ?_);rintro e w' ⟨rfl,⟨nd,rfl⟩⟩;refine ⟨_,rfl,?_⟩;(try (rw [drewN_self w12];generalize hq_:World.drewN w12 _=w12;have n0_:Aside0 (w12.heap[gb101]? = some (.cells #[.int .i64 0,.int .i64 0] 35 (0,0))):=⟨by rw [←hq_];exact (by (with_reducible repeat (first|apply Qe|apply Qf|apply Qd));exact BK101.out)⟩;have n1_:Aside0 (Below w.heap.size w w12):=⟨by rw [←hq_];exact (by repeat (first|(with_reducible first|exact HB.out|apply Qc|apply Qa|apply Qb|refine Qg ?_ GE101.out)|exact HB.out))⟩;clear BK101 HB hq_;have BK101:=n0_;have HB:=n1_;clear n0_ n1_))))
    have n0_:=aM (Qf BK101.out);have n1_:=aM (Qb HB.out);clear BK101;clear HB;have BK101:=n0_;have HB:=n1_;clear n0_ n1_;refine start_ (n:=8) (S:=fun w'=>True) (ds:=[]) #[false,false,false,false,false,false,false,false] (by kernel_rfl) rfl rfl trivial (fun hHeld=>?_);refine with_tabW spec_l1Make.tab5 spec_l1Make.bits5 (fun HT_ HW_=>?_)
    generalize w12.drew=w13 at BK101 HB hHeld ⊢
    refine pure_ (i:=0) (N:=some 15) (v:=?_) (a':=?_) #[true,false,false,false,false,false,false,false] rfl rfl (any_of HT_.out (by kernel_rfl)) (fun _ _ _ h=>h) (Or.inl ⟨by rfl,?_⟩) ?_ ?_
    rotate_left
    ·intro w'
     go_simp
     with_reducible rfl
    rotate_left
    ·simp only [Act.put,aA,aB,aC,i64_w,i32_w]
     rfl
    refine pure_ (i:=1) (N:=some 16) (v:=?_) (a':=?_) #[true,true,false,false,false,false,false,false] rfl rfl (any_of HT_.out (by kernel_rfl)) (fun _ _ _ h=>h) (Or.inl ⟨by rfl,?_⟩) ?_ ?_
    rotate_left
    ·intro w'
     go_simp
     with_reducible rfl
    rotate_left
    ·simp only [Act.put,aA,aB,aC,i64_w,i32_w]
     rfl
    refine pure_ (i:=2) (N:=some 17) (v:=?_) (a':=?_) #[true,true,true,false,false,false,false,false] rfl rfl (any_of HT_.out (by kernel_rfl)) (fun _ _ _ h=>h) (Or.inl ⟨by rfl,?_⟩) ?_ ?_
    rotate_left
    ·intro w'
     go_simp
     with_reducible rfl
    rotate_left
    ·simp only [Act.put,aA,aB,aC,i64_w,i32_w]
     rfl
    refine pure_ (i:=3) (N:=some 18) (v:=?_) (a':=?_) #[true,true,true,true,false,false,false,false] rfl rfl (any_of HT_.out (by kernel_rfl)) (fun _ _ _ h=>h) (Or.inl ⟨by rfl,?_⟩) ?_ ?_
    rotate_left
    ·intro w'
     go_simp
     with_reducible rfl
    rotate_left
    ·simp only [Act.put,aA,aB,aC,i64_w,i32_w]
     rfl
    refine pure_ (i:=4) (N:=some 19) (v:=?_) (a':=?_) #[true,true,true,true,true,false,false,false] rfl rfl (any_of HT_.out (by kernel_rfl)) (fun _ _ _ h=>h) (Or.inl ⟨by rfl,?_⟩) ?_ ?_
    rotate_left
    ·intro w'
     go_simp
     with_reducible rfl
    rotate_left
    ·simp only [Act.put,aA,aB,aC,i64_w,i32_w]
     rfl
    refine pure_ (i:=5) (N:=some 20) (v:=?_) (a':=?_) #[true,true,true,true,true,true,false,false] rfl rfl (any_of HT_.out (by kernel_rfl)) (fun _ _ _ h=>h) (Or.inl ⟨by rfl,?_⟩) ?_ ?_
    rotate_left
    ·intro w'
     go_simp
     with_reducible rfl
    rotate_left
    ·simp only [Act.put,aA,aB,aC,i64_w,i32_w]
     rfl
    refine pure_ (i:=6) (N:=some 21) (v:=?_) (a':=?_) #[true,true,true,true,true,true,true,false] rfl rfl (any_of HT_.out (by kernel_rfl)) (fun _ _ _ h=>h) (Or.inl ⟨by rfl,?_⟩) ?_ ?_
    rotate_left
    ·intro w'
     go_simp
     with_reducible rfl
    rotate_left
    ·simp only [Act.put,aA,aB,aC,i64_w,i32_w]
     rfl
    refine one_ (i:=7) (N:=none) #[true,true,true,true,true,true,true,true] rfl rfl (one_of HT_.out (by kernel_rfl)) (by decide) (fun K hK=>?_);have hs14:w13.cell? ⟨gb101,0,none⟩=some (.int .i64 0):=(blk_cell BK101.out 0).trans rfl;have hfs14:=Qk BK101.out 0;have hs15:w13.cell? ⟨gb101,1,none⟩=some (.int .i64 0):=(blk_cell BK101.out 1).trans rfl;have hfs15:=Qk BK101.out 1;refine skip_ (w1:=?_) (by rfl) rfl ?_ ?_
    rotate_left
    ·go_simp
     rfl
    refine hK.out _ _ trivial (fun hHeld=>?_);clear hK K;refine done_ (done_of HT_.out (by kernel_rfl)) ?_
    try go_wp2
    refine bodyPost_ret (results_cell_row rfl _ _ gb101 35 #[.int .i64 (wrap64 (Int.tdiv a0 t103)),.int .i64 (wrap64 (Int.tdiv a1 t103))] (0,0) _ rfl (by (with_reducible repeat (first|apply Qe|apply Qf|apply Qd));refine blk_put (cs:=#[.int .i64 (wrap64 (Int.tdiv a0 t103)),.int .i64 0]) ?_ 1 _ rfl;(with_reducible repeat (first|apply Qe|apply Qf|apply Qd));refine blk_put (cs:=#[.int .i64 0,.int .i64 0]) ?_ 0 _ rfl;(with_reducible repeat (first|apply Qe|apply Qf|apply Qd));exact BK101.out) Try.underlying35 rfl (by kernel_rfl)) rfl ?_;exact ⟨by first|rfl|(simp [errW_none,errW_some] <;> rfl)|(simp [*,errW_none,errW_some] <;> rfl),by repeat (first|(with_reducible first|exact HB.out|apply Qc|apply Qa|apply Qb|refine Qg ?_ GE101.out)|exact HB.out)⟩

def spec_l4Gain.f (k:Nat) (l0:List Int) (l1:List Int) (a2:Int):Option (Int×Int):=if 0≤a2 then (if a2<(l0.length:Int) then (if a2<(l1.length:Int) then ((spec_l1Make.f k (rd l0 a2) (wrap64 ((rd l1 a2) * (wrap64 ((rd l1 a2)+1))))).bind fun bt105=>(some (bt105.1,bt105.2))) else (none)) else (none)) else (none)
def spec_l4Gain.T1:Bool×List (List Nat×List Nat):=(true,[([],[]),([],[]),([0,1],[0,1]),([2],[2]),([],[]),([],[]),([4,5],[4,5]),([6],[6]),([],[]),([],[]),([8,9],[8,9]),([10],[10]),([11],[11]),([7,12],[7,12]),([3,13],[3,13]),([14,14,0,1,2,3,4,5,6,7,8,9,10,11,12,13,14],[14])])
def spec_l4Gain.B1:List Nat:=[0,0,3,7,0,0,48,112,0,0,768,1792,3840,8176,16383,32767]
theorem spec_l4Gain.tab1:rtab .any (opsOf Try.f232 1)=spec_l4Gain.T1:=by kernel_rfl
theorem spec_l4Gain.bits1:waitsOk spec_l4Gain.T1.2 spec_l4Gain.B1=true:=by kernel_rfl
set_option maxHeartbeats 8000000 in
set_option maxRecDepth 100000 in
theorem spec_l4Gain.calls (k:Nat) (A0:Option Addr) (c0:Nat) (l0:List Int) (A1:Option Addr) (c1:Nat) (l1:List Int) (a2:Int) (r1:Int) (r2:Int) (w:World) (hr0:Kd.C (Kd.int .i64) w A0 l0.length l0) (hc0:l0.length≤c0) (hr1:Kd.C (Kd.int .i64) w A1 l1.length l1) (hc1:l1.length≤c1) (h:spec_l4Gain.f k l0 l1 a2=some (r1,r2)) :
    Calls Try.prog 232 #[.slice A0 l0.length c0,.slice A1 l1.length c1,.int .i64 a2] w fun e w'=>e= .returned (.agg #[.int .i64 r1,.int .i64 r2])∧Below w.heap.size w w':=by
  have hu35:=Try.underlying35;have HR0:=aM hr0;have HC0:=aM hc0;clear hr0 hc0;have HR1:=aM hr1;have HC1:=aM hc1;clear hr1 hc1;have HB:=aM (Below.refl w.heap.size w);have H:(if 0≤a2 then (if a2<(l0.length:Int) then (if a2<(l1.length:Int) then ((spec_l1Make.f k (rd l0 a2) (wrap64 ((rd l1 a2) * (wrap64 ((rd l1 a2)+1))))).bind fun bt105=>(some (bt105.1,bt105.2))) else (none)) else (none)) else (none))=some (r1,r2):=h;clear h;by_cases c4:0≤a2
  ·rw [if_pos c4] at H;have c4b0:decide (0≤a2)=true:=decide_eq_true c4;clear c4;by_cases c5:a2<(l0.length:Int)
   ·rw [if_pos c5] at H;have c5b0:decide (a2<(l0.length:Int))=true:=decide_eq_true c5;clear c5;by_cases c6:a2<(l1.length:Int)
    ·rw [if_pos c6] at H;have c6b0:decide (a2<(l1.length:Int))=true:=decide_eq_true c6;clear c6;replace H:=Option.bind_eq_some_iff.mp H;obtain ⟨⟨t105,t106⟩,A70,H⟩:=H;replace H:(some (t105,t106))=some (r1,r2):=H;have A7:=aM A70;clear A70;simp only [Option.some.injEq,Prod.mk.injEq] at H;obtain ⟨rfl,rfl⟩:=H;go_enter Try.func232,Try.ntmps232
     try go_wp2_with (first|((with_reducible refine gate_dst (N:=6) rfl ?_);refine box_event ?hg (N:=6) ?hd (cs:=#[.int .i64 0,.int .i64 0]) (t:=35) ?hr ?_;(case hd=>rfl);(case hg=>rfl);(case hr=>first|(go_simp;done)|(go_simp;rfl));intro gb101 hg w8 hbox hb;have n0_:=aM (Qi (by repeat (first|(with_reducible first|exact HB.out|apply Qc|apply Qa|apply Qb)|exact HB.out)) hb);have n1_:=aM (hbox);have n2_:=aM ((by rw [hg];exact (Qj (by repeat (first|(with_reducible first|exact HB.out|apply Qc|apply Qa|apply Qb)|exact HB.out))):w.heap.size≤gb101));have n3_:=aM ((by rw [hg];exact (Qj (by repeat (first|(with_reducible first|exact HB.out|apply Qc|apply Qa|apply Qb)|exact HB.out))):w.heap.size≤gb101));clear HB;have HB:=n0_;have BK101:=n1_;have GW101:=n2_;have GE101:=n3_;clear n0_ n1_ n2_ n3_;clear hb hbox hg))
     have n0_:=aM (Qf BK101.out);have n1_:=aM (Qb HB.out);clear BK101;clear HB;have BK101:=n0_;have HB:=n1_;clear n0_ n1_;have p102:0≤(a2:Int):=of_decide_eq_true (by first|(with_reducible assumption)|assumption);have q102:a2<(l0.length:Int):=of_decide_eq_true (by first|(with_reducible assumption)|assumption);obtain ⟨ad102,e102,hx102_0⟩:=Kd.at_int HR0.out a2 p102 q102;have hw102_0:=hx102_0
     cases e102
     replace hx102_0:=(HB.out.cell (aI w _ hx102_0)).trans hx102_0;replace p102:=eq_true p102;replace q102:=eq_true q102;have p103:0≤(a2:Int):=of_decide_eq_true (by first|(with_reducible assumption)|assumption);have q103:a2<(l1.length:Int):=of_decide_eq_true (by first|(with_reducible assumption)|assumption);obtain ⟨ad103,e103,hx103_0⟩:=Kd.at_int HR1.out a2 p103 q103;have hw103_0:=hx103_0
     cases e103
     replace hx103_0:=(HB.out.cell (aI w _ hx103_0)).trans hx103_0;replace p103:=eq_true p103;replace q103:=eq_true q103;have p104:0≤(a2:Int):=of_decide_eq_true (by first|(with_reducible assumption)|assumption);have q104:a2<(l1.length:Int):=of_decide_eq_true (by first|(with_reducible assumption)|assumption);obtain ⟨ad104,e104,hx104_0⟩:=Kd.at_int HR1.out a2 p104 q104;have hw104_0:=hx104_0;obtain rfl:ad103=ad104:=(by injection e104);replace hx104_0:=(HB.out.cell (aI w _ hx104_0)).trans hx104_0;replace p104:=eq_true p104;replace q104:=eq_true q104;refine start_ (n:=16) (S:=fun w'=>w'.cell? (ad102.add (a2).toNat)=some (.int .i64 (rd l0 a2))∧w'.cell? (ad103.add (a2).toNat)=some (.int .i64 (rd l1 a2))∧w'.cell? (ad103.add (a2).toNat)=some (.int .i64 (rd l1 a2))) (ds:=[]) #[false,false,false,false,false,false,false,false,false,false,false,false,false,false,false,false] (by kernel_rfl) rfl rfl ⟨((HB.out.cell (aI w _ hw102_0)).trans hw102_0),((HB.out.cell (aI w _ hw103_0)).trans hw103_0),((HB.out.cell (aI w _ hw104_0)).trans hw104_0)⟩ (fun hHeld=>?_);refine with_tabW spec_l4Gain.tab1 spec_l4Gain.bits1 (fun HT_ HW_=>?_)
     generalize w8.drew=w9 at BK101 HB hx102_0 hx103_0 hx104_0 hHeld ⊢
     refine pure_ (i:=0) (N:=some 7) (v:=?_) (a':=?_) #[true,false,false,false,false,false,false,false,false,false,false,false,false,false,false,false] rfl rfl (any_of HT_.out (by kernel_rfl)) (fun _ _ _ h=>h) (Or.inl ⟨by rfl,?_⟩) ?_ ?_
     rotate_left
     ·intro w'
      go_simp
      with_reducible rfl
     rotate_left
     ·simp only [Act.put,aA,aB,aC,i64_w,i32_w]
      rfl
     refine pure_ (i:=1) (N:=some 8) (v:=?_) (a':=?_) #[true,true,false,false,false,false,false,false,false,false,false,false,false,false,false,false] rfl rfl (any_of HT_.out (by kernel_rfl)) (fun _ _ _ h=>h) (Or.inl ⟨by rfl,?_⟩) ?_ ?_
     rotate_left
     ·intro w'
      go_simp
      with_reducible rfl
     rotate_left
     ·simp only [Act.put,aA,aB,aC,i64_w,i32_w]
      rfl
     refine pure_ (i:=2) (N:=some 9) (v:=?_) (a':=?_) #[true,true,true,false,false,false,false,false,false,false,false,false,false,false,false,false] rfl rfl (any_of HT_.out (by kernel_rfl)) (fun _ _ _ h=>h) (Or.inl ⟨by rfl,?_⟩) ?_ ?_
     rotate_left
     ·intro w'
      go_simp
      with_reducible rfl
     rotate_left
     ·simp only [Act.put,aA,aB,aC,i64_w,i32_w]
      rfl
     refine pure_ (i:=4) (N:=some 11) (v:=?_) (a':=?_) #[true,true,true,false,true,false,false,false,false,false,false,false,false,false,false,false] rfl rfl (any_of HT_.out (by kernel_rfl)) (fun _ _ _ h=>h) (Or.inl ⟨by rfl,?_⟩) ?_ ?_
     rotate_left
     ·intro w'
      go_simp
      with_reducible rfl
     rotate_left
     ·simp only [Act.put,aA,aB,aC,i64_w,i32_w]
      rfl
     refine pure_ (i:=5) (N:=some 12) (v:=?_) (a':=?_) #[true,true,true,false,true,true,false,false,false,false,false,false,false,false,false,false] rfl rfl (any_of HT_.out (by kernel_rfl)) (fun _ _ _ h=>h) (Or.inl ⟨by rfl,?_⟩) ?_ ?_
     rotate_left
     ·intro w'
      go_simp
      with_reducible rfl
     rotate_left
     ·simp only [Act.put,aA,aB,aC,i64_w,i32_w]
      rfl
     refine pure_ (i:=6) (N:=some 13) (v:=?_) (a':=?_) #[true,true,true,false,true,true,true,false,false,false,false,false,false,false,false,false] rfl rfl (any_of HT_.out (by kernel_rfl)) (fun _ _ _ h=>h) (Or.inl ⟨by rfl,?_⟩) ?_ ?_
     rotate_left
     ·intro w'
      go_simp
      with_reducible rfl
     rotate_left
     ·simp only [Act.put,aA,aB,aC,i64_w,i32_w]
      rfl
     refine pure_ (i:=8) (N:=some 15) (v:=?_) (a':=?_) #[true,true,true,false,true,true,true,false,true,false,false,false,false,false,false,false] rfl rfl (any_of HT_.out (by kernel_rfl)) (fun _ _ _ h=>h) (Or.inl ⟨by rfl,?_⟩) ?_ ?_
     rotate_left
     ·intro w'
      go_simp
      with_reducible rfl
     rotate_left
     ·simp only [Act.put,aA,aB,aC,i64_w,i32_w]
      rfl
     refine pure_ (i:=9) (N:=some 16) (v:=?_) (a':=?_) #[true,true,true,false,true,true,true,false,true,true,false,false,false,false,false,false] rfl rfl (any_of HT_.out (by kernel_rfl)) (fun _ _ _ h=>h) (Or.inl ⟨by rfl,?_⟩) ?_ ?_
     rotate_left
     ·intro w'
      go_simp
      with_reducible rfl
     rotate_left
     ·simp only [Act.put,aA,aB,aC,i64_w,i32_w]
      rfl
     refine pure_ (i:=10) (N:=some 17) (v:=?_) (a':=?_) #[true,true,true,false,true,true,true,false,true,true,true,false,false,false,false,false] rfl rfl (any_of HT_.out (by kernel_rfl)) (fun _ _ _ h=>h) (Or.inl ⟨by rfl,?_⟩) ?_ ?_
     rotate_left
     ·intro w'
      go_simp
      with_reducible rfl
     rotate_left
     ·simp only [Act.put,aA,aB,aC,i64_w,i32_w]
      rfl
     refine take_ (i:=3) (N:=some 10) (v:=?_) (a':=?_) #[true,true,true,true,true,true,true,false,true,true,true,false,false,false,false,false] rfl rfl (take_ofW HT_.out HW_.out (by kernel_rfl)) (fun _ _ _ h=>h) (Or.inl ⟨by rfl,?_⟩) hHeld ?_ ?_
     rotate_left
     ·rintro w' ⟨s0,s1,s2⟩
      go_simp
      with_reducible rfl
     rotate_left
     ·simp only [Act.put,aA,aB,aC,i64_w,i32_w]
      rfl
     refine take_ (i:=7) (N:=some 14) (v:=?_) (a':=?_) #[true,true,true,true,true,true,true,true,true,true,true,false,false,false,false,false] rfl rfl (take_ofW HT_.out HW_.out (by kernel_rfl)) (fun _ _ _ h=>h) (Or.inl ⟨by rfl,?_⟩) hHeld ?_ ?_
     rotate_left
     ·rintro w' ⟨s0,s1,s2⟩
      go_simp
      with_reducible rfl
     rotate_left
     ·simp only [Act.put,aA,aB,aC,i64_w,i32_w]
      rfl
     refine take_ (i:=11) (N:=some 18) (v:=?_) (a':=?_) #[true,true,true,true,true,true,true,true,true,true,true,true,false,false,false,false] rfl rfl (take_ofW HT_.out HW_.out (by kernel_rfl)) (fun _ _ _ h=>h) (Or.inl ⟨by rfl,?_⟩) hHeld ?_ ?_
     rotate_left
     ·rintro w' ⟨s0,s1,s2⟩
      go_simp
      with_reducible rfl
     rotate_left
     ·simp only [Act.put,aA,aB,aC,i64_w,i32_w]
      rfl
     refine pure_ (i:=12) (N:=some 19) (v:=?_) (a':=?_) #[true,true,true,true,true,true,true,true,true,true,true,true,true,false,false,false] rfl rfl (any_of HT_.out (by kernel_rfl)) (fun _ _ _ h=>h) (Or.inl ⟨by rfl,?_⟩) ?_ ?_
     rotate_left
     ·intro w'
      go_simp
      with_reducible rfl
     rotate_left
     ·simp only [Act.put,aA,aB,aC,i64_w,i32_w]
      rfl
     refine pure_ (i:=13) (N:=some 20) (v:=?_) (a':=?_) #[true,true,true,true,true,true,true,true,true,true,true,true,true,true,false,false] rfl rfl (any_of HT_.out (by kernel_rfl)) (fun _ _ _ h=>h) (Or.inl ⟨by rfl,?_⟩) ?_ ?_
     rotate_left
     ·intro w'
      go_simp
      with_reducible rfl
     rotate_left
     ·simp only [Act.put,aA,aB,aC,i64_w,i32_w]
      rfl
     refine one_ (i:=14) (N:=some 21) #[true,true,true,true,true,true,true,true,true,true,true,true,true,true,true,false] rfl rfl (one_of HT_.out (by kernel_rfl)) (by decide) (fun K hK=>?_)
     first|(refine goes_ Try.func126 (by kernel_rfl) rfl #[.int .i64 (rd l0 a2),.int .i64 (wrap64 ((rd l1 a2) * (wrap64 ((rd l1 a2)+1))))] (by rfl) rfl rfl (by (try simp only [aD,aE,aF]);first|done|rfl|(simp only [aG,aH];rfl)) ?_)|(refine call_ 126 #[.int .i64 (rd l0 a2),.int .i64 (wrap64 ((rd l1 a2) * (wrap64 ((rd l1 a2)+1))))] (by rfl) rfl (by unfold execOp;simp [resolve,Deferred.ofValue,invoke,Act.eval,enters_ Try.func126 (by kernel_rfl) rfl]) ?_)
     with_reducible refine (spec_l1Make.calls k (rd l0 a2) (wrap64 ((rd l1 a2) * (wrap64 ((rd l1 a2)+1)))) t105 t106 _ A7.out).mono ?_
     rintro e w10 ⟨rfl,hb⟩
     refine ⟨_,rfl,?_⟩;have n0_:=aM (blk_below (g:=gb101) (o:= .cells #[.int .i64 0,.int .i64 0] 35 (0,0)) (by (with_reducible repeat (first|apply Qe|apply Qf|apply Qd));exact BK101.out) hb);have n1_:=aM (Qi (by repeat (first|(with_reducible first|exact HB.out|apply Qc|apply Qa|apply Qb|refine Qg ?_ GE101.out)|exact HB.out)) hb);clear BK101;clear HB;have BK101:=n0_;have HB:=n1_;clear n0_ n1_;(try clear hb);(try clear hb2);(try clear hk);(try clear hi);refine hK.out _ _ ⟨((HB.out.cell (aI w _ hw102_0)).trans hw102_0),((HB.out.cell (aI w _ hw103_0)).trans hw103_0),((HB.out.cell (aI w _ hw104_0)).trans hw104_0)⟩ (fun hHeld=>?_);clear hK K;refine norm_ (a':=?_) ?_ ?_
     rotate_left
     ·show Act.put _ (some 21) _=_
      simp only [Act.put,aA,aB,aC,i64_w,i32_w]
      rfl
     refine one_ (i:=15) (N:=none) #[true,true,true,true,true,true,true,true,true,true,true,true,true,true,true,true] rfl rfl (one_of HT_.out (by kernel_rfl)) (by decide) (fun K hK=>?_);have hs11:w10.cell? ⟨gb101,0,none⟩=some (.int .i64 0):=(blk_cell BK101.out 0).trans rfl;have hfs11:=Qk BK101.out 0;have hs12:w10.cell? ⟨gb101,1,none⟩=some (.int .i64 0):=(blk_cell BK101.out 1).trans rfl;have hfs12:=Qk BK101.out 1;refine skip_ (w1:=?_) (by rfl) rfl ?_ ?_
     rotate_left
     ·go_simp
      rfl
     refine hK.out _ _ ⟨((cell_far (p:=⟨gb101,_,none⟩) (by first|exact Nat.ne_of_lt (Nat.lt_of_lt_of_le (by have:=aI _ _ hw102_0;first|rwa [add_block] at this|exact this) GW101.out)|(rw [add_block];exact Nat.ne_of_lt (Nat.lt_of_lt_of_le (by have:=aI _ _ hw102_0;first|rwa [add_block] at this|exact this) GW101.out))|(show (Addr.add _ _).block≠_;rw [add_block];exact Nat.ne_of_lt (Nat.lt_of_lt_of_le (by have:=aI _ _ hw102_0;first|rwa [add_block] at this|exact this) GW101.out))|(dsimp only;exact Nat.ne_of_lt (Nat.lt_of_lt_of_le (by have:=aI _ _ hw102_0;first|rwa [add_block] at this|exact this) GW101.out))) _).trans (((cell_far (p:=⟨gb101,_,none⟩) (by first|exact Nat.ne_of_lt (Nat.lt_of_lt_of_le (by have:=aI _ _ hw102_0;first|rwa [add_block] at this|exact this) GW101.out)|(rw [add_block];exact Nat.ne_of_lt (Nat.lt_of_lt_of_le (by have:=aI _ _ hw102_0;first|rwa [add_block] at this|exact this) GW101.out))|(show (Addr.add _ _).block≠_;rw [add_block];exact Nat.ne_of_lt (Nat.lt_of_lt_of_le (by have:=aI _ _ hw102_0;first|rwa [add_block] at this|exact this) GW101.out))|(dsimp only;exact Nat.ne_of_lt (Nat.lt_of_lt_of_le (by have:=aI _ _ hw102_0;first|rwa [add_block] at this|exact this) GW101.out))) _).trans (hHeld.1)))),((cell_far (p:=⟨gb101,_,none⟩) (by first|exact Nat.ne_of_lt (Nat.lt_of_lt_of_le (by have:=aI _ _ hw103_0;first|rwa [add_block] at this|exact this) GW101.out)|(rw [add_block];exact Nat.ne_of_lt (Nat.lt_of_lt_of_le (by have:=aI _ _ hw103_0;first|rwa [add_block] at this|exact this) GW101.out))|(show (Addr.add _ _).block≠_;rw [add_block];exact Nat.ne_of_lt (Nat.lt_of_lt_of_le (by have:=aI _ _ hw103_0;first|rwa [add_block] at this|exact this) GW101.out))|(dsimp only;exact Nat.ne_of_lt (Nat.lt_of_lt_of_le (by have:=aI _ _ hw103_0;first|rwa [add_block] at this|exact this) GW101.out))) _).trans (((cell_far (p:=⟨gb101,_,none⟩) (by first|exact Nat.ne_of_lt (Nat.lt_of_lt_of_le (by have:=aI _ _ hw103_0;first|rwa [add_block] at this|exact this) GW101.out)|(rw [add_block];exact Nat.ne_of_lt (Nat.lt_of_lt_of_le (by have:=aI _ _ hw103_0;first|rwa [add_block] at this|exact this) GW101.out))|(show (Addr.add _ _).block≠_;rw [add_block];exact Nat.ne_of_lt (Nat.lt_of_lt_of_le (by have:=aI _ _ hw103_0;first|rwa [add_block] at this|exact this) GW101.out))|(dsimp only;exact Nat.ne_of_lt (Nat.lt_of_lt_of_le (by have:=aI _ _ hw103_0;first|rwa [add_block] at this|exact this) GW101.out))) _).trans (hHeld.2.1)))),((cell_far (p:=⟨gb101,_,none⟩) (by first|exact Nat.ne_of_lt (Nat.lt_of_lt_of_le (by have:=aI _ _ hw104_0;first|rwa [add_block] at this|exact this) GW101.out)|(rw [add_block];exact Nat.ne_of_lt (Nat.lt_of_lt_of_le (by have:=aI _ _ hw104_0;first|rwa [add_block] at this|exact this) GW101.out))|(show (Addr.add _ _).block≠_;rw [add_block];exact Nat.ne_of_lt (Nat.lt_of_lt_of_le (by have:=aI _ _ hw104_0;first|rwa [add_block] at this|exact this) GW101.out))|(dsimp only;exact Nat.ne_of_lt (Nat.lt_of_lt_of_le (by have:=aI _ _ hw104_0;first|rwa [add_block] at this|exact this) GW101.out))) _).trans (((cell_far (p:=⟨gb101,_,none⟩) (by first|exact Nat.ne_of_lt (Nat.lt_of_lt_of_le (by have:=aI _ _ hw104_0;first|rwa [add_block] at this|exact this) GW101.out)|(rw [add_block];exact Nat.ne_of_lt (Nat.lt_of_lt_of_le (by have:=aI _ _ hw104_0;first|rwa [add_block] at this|exact this) GW101.out))|(show (Addr.add _ _).block≠_;rw [add_block];exact Nat.ne_of_lt (Nat.lt_of_lt_of_le (by have:=aI _ _ hw104_0;first|rwa [add_block] at this|exact this) GW101.out))|(dsimp only;exact Nat.ne_of_lt (Nat.lt_of_lt_of_le (by have:=aI _ _ hw104_0;first|rwa [add_block] at this|exact this) GW101.out))) _).trans (hHeld.2.2))))⟩ (fun hHeld=>?_);clear hK K;refine done_ (done_of HT_.out (by kernel_rfl)) ?_
     try go_wp2
     refine bodyPost_ret (results_cell_row rfl _ _ gb101 35 #[.int .i64 t105,.int .i64 t106] (0,0) _ rfl (by (with_reducible repeat (first|apply Qe|apply Qf|apply Qd));refine blk_put (cs:=#[.int .i64 t105,.int .i64 0]) ?_ 1 _ rfl;(with_reducible repeat (first|apply Qe|apply Qf|apply Qd));refine blk_put (cs:=#[.int .i64 0,.int .i64 0]) ?_ 0 _ rfl;(with_reducible repeat (first|apply Qe|apply Qf|apply Qd));exact BK101.out) Try.underlying35 rfl (by kernel_rfl)) rfl ?_;exact ⟨by first|rfl|(simp [errW_none,errW_some] <;> rfl)|(simp [*,errW_none,errW_some] <;> rfl),by repeat (first|(with_reducible first|exact HB.out|apply Qc|apply Qa|apply Qb|refine Qg ?_ GE101.out)|exact HB.out)⟩
    ·rw [if_neg c6] at H;exact absurd H (by simp)
   ·rw [if_neg c5] at H;exact absurd H (by simp)
  ·rw [if_neg c4] at H;exact absurd H (by simp)

def spec_l4Next.l0:Nat→List Int→List Int→Int→Int→Int→Option (Int)
  |0,_,_,_,_,_=>none
  |k+1,x0,x1,x5,x8,x9=>if x9<x8 then ((spec_l4Gain.f k x0 x1 x5).bind fun bt101=>((spec_l4Gain.f k x0 x1 x9).bind fun bt103=>((spec_l1Less.f bt101.1 bt101.2 bt103.1 bt103.2).bind fun t105=>(if t105=true then (spec_l4Next.l0 k x0 x1 x9 x8 (wrap64 (x9+1))) else (spec_l4Next.l0 k x0 x1 x5 x8 (wrap64 (x9+1))))))) else (some x5)
def spec_l4Next.f (k:Nat) (l0:List Int) (l1:List Int):Option (Int):=spec_l4Next.l0 k l0 l1 0 (l0.length:Int) 0
set_option maxHeartbeats 8000000 in
set_option maxRecDepth 100000 in
theorem spec_l4Next.calls (k:Nat) (A0:Option Addr) (c0:Nat) (l0:List Int) (A1:Option Addr) (c1:Nat) (l1:List Int) (r:Int) (w:World) (hr0:Kd.C (Kd.int .i64) w A0 l0.length l0) (hc0:l0.length≤c0) (hr1:Kd.C (Kd.int .i64) w A1 l1.length l1) (hc1:l1.length≤c1) (h:spec_l4Next.f k l0 l1=some r) :
    Calls Try.prog 201 #[.slice A0 l0.length c0,.slice A1 l1.length c1] w fun e w'=>e= .returned (.int .i64 r)∧Below w.heap.size w w':=by
  have HR0:=aM hr0;have HC0:=aM hc0;clear hr0 hc0;have HR1:=aM hr1;have HC1:=aM hc1;clear hr1 hc1;have HB:=aM (Below.refl w.heap.size w);have H:(spec_l4Next.l0 k l0 l1 0 (l0.length:Int) 0)=some r:=h;clear h;have H':=aM H;clear H;go_enter Try.func201,Try.ntmps201;go_wp2;go_loopg [5,9] k (fun kq v5 v9 w'=>∃ (x5_1:Int) (x9_1:Int),v5= .int .i64 x5_1∧v9= .int .i64 x9_1∧Aside0 (spec_l4Next.l0 kq l0 l1 x5_1 (l0.length:Int) x9_1=some r)∧Aside0 (kq≤k)∧Aside0 (Below w.heap.size w w'))
  case atStart=>exact ⟨(0),(0),(by first|rfl|(simp;done)|(simp [*];done)),(by first|rfl|(simp;done)|(simp [*];done)),H',⟨Nat.le_refl _⟩,⟨by repeat (first|(with_reducible first|exact HB.out|apply Qc|apply Qa|apply Qb)|exact HB.out)⟩⟩
  case round=>
   clear H';(try clear c1);(try clear c2);(try clear p2);obtain ⟨x5_1,x9_1,rfl,rfl,HA,HK1,HB⟩:=hrel
   cases gk with
   |zero=>exact absurd HA.out (by simp [spec_l4Next.l0])
   |succ k1=>
    have H:=HA.out;clear HA;simp only [spec_l4Next.l0] at H;by_cases c3:x9_1<(l0.length:Int)
    ·rw [if_pos c3] at H;have c3b0:decide (x9_1<(l0.length:Int))=true:=decide_eq_true c3;clear c3;replace H:=Option.bind_eq_some_iff.mp H;obtain ⟨⟨t101,t102⟩,A40,H⟩:=H;replace H:((spec_l4Gain.f k1 l0 l1 x9_1).bind fun bt103=>((spec_l1Less.f t101 t102 bt103.1 bt103.2).bind fun t105=>(if t105=true then (spec_l4Next.l0 k1 l0 l1 x9_1 (l0.length:Int) (wrap64 (x9_1+1))) else (spec_l4Next.l0 k1 l0 l1 x5_1 (l0.length:Int) (wrap64 (x9_1+1))))))=some r:=H;have A4:=aM A40;clear A40;replace H:=Option.bind_eq_some_iff.mp H;obtain ⟨⟨t103,t104⟩,A50,H⟩:=H;replace H:((spec_l1Less.f t101 t102 t103 t104).bind fun t105=>(if t105=true then (spec_l4Next.l0 k1 l0 l1 x9_1 (l0.length:Int) (wrap64 (x9_1+1))) else (spec_l4Next.l0 k1 l0 l1 x5_1 (l0.length:Int) (wrap64 (x9_1+1)))))=some r:=H;have A5:=aM A50;clear A50;replace H:=Option.bind_eq_some_iff.mp H;obtain ⟨t105,A60,H⟩:=H;replace H:(if t105=true then (spec_l4Next.l0 k1 l0 l1 x9_1 (l0.length:Int) (wrap64 (x9_1+1))) else (spec_l4Next.l0 k1 l0 l1 x5_1 (l0.length:Int) (wrap64 (x9_1+1))))=some r:=H;have A6:=aM A60;clear A60;by_cases c7:t105=true
     ·subst c7;have H1:(spec_l4Next.l0 k1 l0 l1 x9_1 (l0.length:Int) (wrap64 (x9_1+1)))=some r:=by rw [if_pos rfl] at H;exact H
      clear H;have H:=H1;clear H1;have H':=aM H;clear H;go_wp2_with (first|((with_reducible refine Qh (f:=232) rfl ?_);refine goesL_ (some 15) rfl rfl Try.func232 (by kernel_rfl) rfl #[.slice A0 l0.length c0,.slice A1 l1.length c1,.int .i64 x5_1] rfl (by (try simp only [aD,aE,aF]);first|done|rfl|(simp only [aG,aH];rfl)) ?_;(with_reducible refine (spec_l4Gain.calls k1 _ _ l0 _ _ l1 x5_1 t101 t102 _ ?side1 ?side2 ?side3 ?side4 A4.out).mono ?_);(case side1=>repeat (first|exact (Kd.C_below HR0.out HB.out)|(with_reducible refine Kd.C_alloc ?_ _)|(with_reducible refine Kd.C_drewN ?_ _)|(with_reducible refine Kd.C_drew ?_)));(case side2=>exact HC0.out);(case side3=>repeat (first|exact (Kd.C_below HR1.out HB.out)|(with_reducible refine Kd.C_alloc ?_ _)|(with_reducible refine Kd.C_drewN ?_ _)|(with_reducible refine Kd.C_drew ?_)));(case side4=>exact HC1.out);rintro e w8 ⟨rfl,hb⟩;refine ⟨_,rfl,?_⟩;have n0_:=aM (Qi (by repeat (first|(with_reducible first|exact HB.out|apply Qc|apply Qa|apply Qb)|exact HB.out)) hb);clear HB;have HB:=n0_;clear n0_;(try clear hb);(try clear hb2);(try clear hk);(try clear hi))|((with_reducible refine Qh (f:=232) rfl ?_);refine goesL_ (some 19) rfl rfl Try.func232 (by kernel_rfl) rfl #[.slice A0 l0.length c0,.slice A1 l1.length c1,.int .i64 x9_1] rfl (by (try simp only [aD,aE,aF]);first|done|rfl|(simp only [aG,aH];rfl)) ?_;(with_reducible refine (spec_l4Gain.calls k1 _ _ l0 _ _ l1 x9_1 t103 t104 _ ?side1 ?side2 ?side3 ?side4 A5.out).mono ?_);(case side1=>repeat (first|exact (Kd.C_below HR0.out HB.out)|(with_reducible refine Kd.C_alloc ?_ _)|(with_reducible refine Kd.C_drewN ?_ _)|(with_reducible refine Kd.C_drew ?_)));(case side2=>exact HC0.out);(case side3=>repeat (first|exact (Kd.C_below HR1.out HB.out)|(with_reducible refine Kd.C_alloc ?_ _)|(with_reducible refine Kd.C_drewN ?_ _)|(with_reducible refine Kd.C_drew ?_)));(case side4=>exact HC1.out);rintro e w9 ⟨rfl,hb⟩;refine ⟨_,rfl,?_⟩;have n0_:=aM (Qi (by repeat (first|(with_reducible first|exact HB.out|apply Qc|apply Qa|apply Qb)|exact HB.out)) hb);clear HB;have HB:=n0_;clear n0_;(try clear hb);(try clear hb2);(try clear hk);(try clear hi))|((with_reducible refine Qh (f:=231) rfl ?_);refine goesL_ (some 20) rfl rfl Try.func231 (by kernel_rfl) rfl #[.agg #[.int .i64 t101,.int .i64 t102],.agg #[.int .i64 t103,.int .i64 t104]] rfl (by (try simp only [aD,aE,aF]);first|done|rfl|(simp only [aG,aH];rfl)) ?_;(with_reducible refine (spec_l1Less.calls t101 t102 t103 t104 true _ A6.out).mono ?_);rintro e w10 ⟨rfl,hb⟩;refine ⟨_,rfl,?_⟩;have n0_:=aM (Qi (by repeat (first|(with_reducible first|exact HB.out|apply Qc|apply Qa|apply Qb)|exact HB.out)) hb);clear HB;have HB:=n0_;clear n0_;(try clear hb);(try clear hb2);(try clear hk);(try clear hi)))
      go_roundg k1
      case measure=>have:=HK1.out;omega
      case rel=>exact ⟨(x9_1),(wrap64 (x9_1+1)),(by first|rfl|(simp;done)|(simp [*];done)),(by first|rfl|(simp;done)|(simp [*];done)),H',⟨by have:=HK1.out;omega⟩,⟨by repeat (first|(with_reducible first|exact HB.out|apply Qc|apply Qa|apply Qb)|exact HB.out)⟩⟩
     ·replace c7:=Bool.eq_false_iff.mpr c7;subst c7;have H1:(spec_l4Next.l0 k1 l0 l1 x5_1 (l0.length:Int) (wrap64 (x9_1+1)))=some r:=by rw [if_neg (show ¬ (false=true) by decide)] at H;exact H
      clear H;have H:=H1;clear H1;have H':=aM H;clear H;go_wp2_with (first|((with_reducible refine Qh (f:=232) rfl ?_);refine goesL_ (some 15) rfl rfl Try.func232 (by kernel_rfl) rfl #[.slice A0 l0.length c0,.slice A1 l1.length c1,.int .i64 x5_1] rfl (by (try simp only [aD,aE,aF]);first|done|rfl|(simp only [aG,aH];rfl)) ?_;(with_reducible refine (spec_l4Gain.calls k1 _ _ l0 _ _ l1 x5_1 t101 t102 _ ?side1 ?side2 ?side3 ?side4 A4.out).mono ?_);(case side1=>repeat (first|exact (Kd.C_below HR0.out HB.out)|(with_reducible refine Kd.C_alloc ?_ _)|(with_reducible refine Kd.C_drewN ?_ _)|(with_reducible refine Kd.C_drew ?_)));(case side2=>exact HC0.out);(case side3=>repeat (first|exact (Kd.C_below HR1.out HB.out)|(with_reducible refine Kd.C_alloc ?_ _)|(with_reducible refine Kd.C_drewN ?_ _)|(with_reducible refine Kd.C_drew ?_)));(case side4=>exact HC1.out);rintro e w11 ⟨rfl,hb⟩;refine ⟨_,rfl,?_⟩;have n0_:=aM (Qi (by repeat (first|(with_reducible first|exact HB.out|apply Qc|apply Qa|apply Qb)|exact HB.out)) hb);clear HB;have HB:=n0_;clear n0_;(try clear hb);(try clear hb2);(try clear hk);(try clear hi))|((with_reducible refine Qh (f:=232) rfl ?_);refine goesL_ (some 19) rfl rfl Try.func232 (by kernel_rfl) rfl #[.slice A0 l0.length c0,.slice A1 l1.length c1,.int .i64 x9_1] rfl (by (try simp only [aD,aE,aF]);first|done|rfl|(simp only [aG,aH];rfl)) ?_;(with_reducible refine (spec_l4Gain.calls k1 _ _ l0 _ _ l1 x9_1 t103 t104 _ ?side1 ?side2 ?side3 ?side4 A5.out).mono ?_);(case side1=>repeat (first|exact (Kd.C_below HR0.out HB.out)|(with_reducible refine Kd.C_alloc ?_ _)|(with_reducible refine Kd.C_drewN ?_ _)|(with_reducible refine Kd.C_drew ?_)));(case side2=>exact HC0.out);(case side3=>repeat (first|exact (Kd.C_below HR1.out HB.out)|(with_reducible refine Kd.C_alloc ?_ _)|(with_reducible refine Kd.C_drewN ?_ _)|(with_reducible refine Kd.C_drew ?_)));(case side4=>exact HC1.out);rintro e w12 ⟨rfl,hb⟩;refine ⟨_,rfl,?_⟩;have n0_:=aM (Qi (by repeat (first|(with_reducible first|exact HB.out|apply Qc|apply Qa|apply Qb)|exact HB.out)) hb);clear HB;have HB:=n0_;clear n0_;(try clear hb);(try clear hb2);(try clear hk);(try clear hi))|((with_reducible refine Qh (f:=231) rfl ?_);refine goesL_ (some 20) rfl rfl Try.func231 (by kernel_rfl) rfl #[.agg #[.int .i64 t101,.int .i64 t102],.agg #[.int .i64 t103,.int .i64 t104]] rfl (by (try simp only [aD,aE,aF]);first|done|rfl|(simp only [aG,aH];rfl)) ?_;(with_reducible refine (spec_l1Less.calls t101 t102 t103 t104 false _ A6.out).mono ?_);rintro e w13 ⟨rfl,hb⟩;refine ⟨_,rfl,?_⟩;have n0_:=aM (Qi (by repeat (first|(with_reducible first|exact HB.out|apply Qc|apply Qa|apply Qb)|exact HB.out)) hb);clear HB;have HB:=n0_;clear n0_;(try clear hb);(try clear hb2);(try clear hk);(try clear hi)))
      go_roundg k1
      case measure=>have:=HK1.out;omega
      case rel=>exact ⟨(x5_1),(wrap64 (x9_1+1)),(by first|rfl|(simp;done)|(simp [*];done)),(by first|rfl|(simp;done)|(simp [*];done)),H',⟨by have:=HK1.out;omega⟩,⟨by repeat (first|(with_reducible first|exact HB.out|apply Qc|apply Qa|apply Qb)|exact HB.out)⟩⟩
    ·rw [if_neg c3] at H;have c3b0:decide (x9_1<(l0.length:Int))=false:=decide_eq_false c3;clear c3;obtain rfl:=Option.some.inj H;go_wp2
     go_ret
     exact ⟨by first|rfl|(simp [errW_none,errW_some] <;> rfl)|(simp [*,errW_none,errW_some] <;> rfl),by repeat (first|(with_reducible first|exact HB.out|apply Qc|apply Qa|apply Qb)|exact HB.out)⟩

mutual
def spec_l4Share.l0:Nat→List Int→Int→List Int→Int→Int→Option (List Int)
  |0,_,_,_,_,_=>none
  |k+1,x0,x1,x5,x8,x9=>if x9<x8 then (if x5.length<17592186044416 then (spec_l4Share.l0 k x0 x1 (x5 ++ [1]) x8 (wrap64 (x9+1))) else (none)) else (spec_l4Share.l1 k x0 x1 x5 (x0.length:Int))
def spec_l4Share.l1:Nat→List Int→Int→List Int→Int→Option (List Int)
  |0,_,_,_,_=>none
  |k+1,x0,x1,x5,x6=>if x6<x1 then ((spec_l4Next.f k x0 x5).bind fun t104=>(if 0≤t104 then (if t104<(x5.length:Int) then (spec_l4Share.l1 k x0 x1 (x5.set (t104:Int).toNat (wrap64 ((rd x5 t104)+1))) (wrap64 (x6+1))) else (none)) else (none))) else (some x5)
end
def spec_l4Share.f (k:Nat) (l0:List Int) (a1:Int):Option (List Int):=spec_l4Share.l0 k l0 a1 ([]:List Int) (l0.length:Int) 0
set_option maxHeartbeats 8000000 in
set_option maxRecDepth 100000 in
theorem spec_l4Share.calls (k:Nat) (A0:Option Addr) (c0:Nat) (l0:List Int) (a1:Int) (r:List Int) (w:World) (hr0:Kd.C (Kd.int .i64) w A0 l0.length l0) (hc0:l0.length≤c0) (h:spec_l4Share.f k l0 a1=some r) :
    Calls Try.prog 111 #[.slice A0 l0.length c0,.int .i64 a1] w fun e w'=>∃ v0_:Value,e= .returned (v0_)∧Kd.R (Kd.int .i64) 3 w' w.heap.size (fun _=>True) v0_ r∧Below w.heap.size w w':=by
  have HR0:=aM hr0;have HC0:=aM hc0;clear hr0 hc0;have HB:=aM (Below.refl w.heap.size w);have H:(spec_l4Share.l0 k l0 a1 ([]:List Int) (l0.length:Int) 0)=some r:=h;clear h;have H':=aM H;clear H;go_enter Try.func111,Try.ntmps111;go_wp2;go_loopg [5,9] k (fun kq v5 v9 w'=>∃ (x5_1:List Int) (x9_1:Int),v9= .int .i64 x9_1∧Aside0 (spec_l4Share.l0 kq l0 a1 x5_1 (l0.length:Int) x9_1=some r)∧Aside0 (kq≤k)∧Aside0 (Kd.R (Kd.int .i64) 3 w' w.heap.size (fun _=>True) v5 x5_1)∧Aside0 (Below w.heap.size w w'))
  case atStart=>exact ⟨(([]:List Int)),(0),(by first|rfl|(simp;done)|(simp [*];done)),H',⟨Nat.le_refl _⟩,⟨by first|exact Kd.R_nil _ _ _ _ _|exact Kd.N_nil _ _ _ _ _|exact Kd.V_nil _ _ _ _ _|exact Kd.Q_nil _ _ _ _ _|exact Kd.S_nil _ _ _ _ _⟩,⟨by repeat (first|(with_reducible first|exact HB.out|apply Qc|apply Qa|apply Qb)|exact HB.out)⟩⟩
  case round=>
   clear H';(try clear c1);(try clear p2);obtain ⟨x5_1,x9_1,rfl,HA,HK1,HO_5,HB⟩:=hrel
   cases gk with
   |zero=>exact absurd HA.out (by simp [spec_l4Share.l0])
   |succ k1=>
    have H:=HA.out;clear HA;simp only [spec_l4Share.l0] at H;by_cases c3:x9_1<(l0.length:Int)
    ·rw [if_pos c3] at H;have c3b0:decide (x9_1<(l0.length:Int))=true:=decide_eq_true c3;clear c3;by_cases c4:x5_1.length<17592186044416
     ·rw [if_pos c4] at H;have LMc4:=aM c4;clear c4;obtain ⟨y101,hy101⟩:∃ y_:List Int,y_=(x5_1 ++ [1]):=⟨_,rfl⟩;replace H:(spec_l4Share.l0 k1 l0 a1 y101 (l0.length:Int) (wrap64 (x9_1+1)))=some r:=by first|(rw [hy101];with_reducible exact H)|(have H2_:=(Option.bind_some _ _).symm.trans H;rw [hy101];with_reducible exact H2_)|(have H2_:=(Option.bind_some _ _).symm.trans H;with_reducible exact H2_)|with_reducible exact H|(rw [hy101];exact H)|exact H
      have Ny101:=aM hy101;clear hy101;have H':=aM H;clear H;go_wp2_with (first|((with_reducible refine gate_builtin (b:= .append) (xs:=#[.tmp 11,.tmp 12]) rfl ?_);at_builtin;refine Kd.R_append (Kd.int .i64) (w0:=w) w.heap.size rfl (.tmp 11) (.tmp 12) 23 3 (.int .i64 0) 8 rfl Try.underlying23 info3 rfl (by decide) (by omega) u5 x5_1 1 [.int .i64 1] (fun _=>True) (fun _=>False) rfl rfl ?aP (fun _ hk=>hk.elim) ?aF ?aO ?aB ?aS ?aL ?_;(case aP=>exact rfl);(case aB=>exact (by repeat (first|(with_reducible first|exact HB.out|apply Qc|apply Qa|apply Qb)|exact HB.out)));(case aF=>exact (fun _ _=>trivial));(case aO=>exact (by (with_reducible repeat (first|apply Kd.R_alloc|apply Kd.R_drewN|apply Kd.R_drew));exact HO_5.out));(case aS=>exact (Qj (by repeat (first|(with_reducible first|exact HB.out|apply Qc|apply Qa|apply Qb)|exact HB.out))));(case aL=>have:=LMc4.out;omega);intro v102 w5 ho hb hg hat;rw [←Ny101.out] at ho;have n0_:=aM (hb);have n1_:=aM (ho);clear HB;clear HO_5;have HB:=n0_;have HO103:=n1_;clear n0_ n1_;clear ho hb hg hat))
      go_roundg k1
      case measure=>have:=HK1.out;omega
      case rel=>exact ⟨(y101),(wrap64 (x9_1+1)),(by first|rfl|(simp;done)|(simp [*];done)),H',⟨by have:=HK1.out;omega⟩,⟨by (with_reducible repeat (first|apply Kd.R_alloc|apply Kd.R_drewN|apply Kd.R_drew));exact HO103.out⟩,⟨by repeat (first|(with_reducible first|exact HB.out|apply Qc|apply Qa|apply Qb)|exact HB.out)⟩⟩
     ·rw [if_neg c4] at H;exact absurd H (by simp)
    ·rw [if_neg c3] at H;have c3b0:decide (x9_1<(l0.length:Int))=false:=decide_eq_false c3;clear c3;have H':=aM H;clear H;go_wp2;go_loopg [6] k1 (fun kq v6 w'=>∃ (x5_2:List Int) (x6_2:Int),v6= .int .i64 x6_2∧Aside0 (spec_l4Share.l1 kq l0 a1 x5_2 x6_2=some r)∧Aside0 (kq≤k1)∧Aside0 (Kd.R (Kd.int .i64) 3 w' w.heap.size (fun _=>True) u5 x5_2)∧Aside0 (Below w.heap.size w w'))
     case atStart=>exact ⟨(x5_1),((l0.length:Int)),(by first|rfl|(simp;done)|(simp [*];done)),H',⟨Nat.le_refl _⟩,⟨by (with_reducible repeat (first|apply Kd.R_alloc|apply Kd.R_drewN|apply Kd.R_drew));exact HO_5.out⟩,⟨by repeat (first|(with_reducible first|exact HB.out|apply Qc|apply Qa|apply Qb)|exact HB.out)⟩⟩
     case round=>
      clear H';(try clear c1);(try clear p2);(try clear c3);(try clear c3b0);(try clear c4);(try clear p2);obtain ⟨x5_2,x6_2,rfl,HA,HK2,HO_5,HB⟩:=hrel
      cases gk with
      |zero=>exact absurd HA.out (by simp [spec_l4Share.l1])
      |succ k2=>
       have H:=HA.out;clear HA;simp only [spec_l4Share.l1] at H;by_cases c6:x6_2<a1
       ·rw [if_pos c6] at H;have c6b0:decide (x6_2<a1)=true:=decide_eq_true c6;clear c6;replace H:=Option.bind_eq_some_iff.mp H;obtain ⟨t104,A70,H⟩:=H;replace H:(if 0≤t104 then (if t104<(x5_2.length:Int) then (spec_l4Share.l1 k2 l0 a1 (x5_2.set (t104:Int).toNat (wrap64 ((rd x5_2 t104)+1))) (wrap64 (x6_2+1))) else (none)) else (none))=some r:=H;have A7:=aM A70;clear A70;by_cases c8:0≤t104
        ·rw [if_pos c8] at H;have c8b0:decide (0≤t104)=true:=decide_eq_true c8;clear c8;by_cases c9:t104<(x5_2.length:Int)
         ·rw [if_pos c9] at H;have c9b0:decide (t104<(x5_2.length:Int))=true:=decide_eq_true c9;clear c9;obtain ⟨y106,hy106⟩:∃ y_:List Int,y_=(x5_2.set (t104:Int).toNat (wrap64 ((rd x5_2 t104)+1))):=⟨_,rfl⟩;replace H:(spec_l4Share.l1 k2 l0 a1 y106 (wrap64 (x6_2+1)))=some r:=by first|(rw [hy106];with_reducible exact H)|(have H2_:=(Option.bind_some _ _).symm.trans H;rw [hy106];with_reducible exact H2_)|(have H2_:=(Option.bind_some _ _).symm.trans H;with_reducible exact H2_)|with_reducible exact H|(rw [hy106];exact H)|exact H
          have Ny106:=aM hy106;clear hy106;have H':=aM H;clear H;obtain ⟨Ao11,co11,eo11⟩:=Kd.R_slice HO_5.out;subst eo11;go_wp2_with (first|((with_reducible refine Qh (f:=201) rfl ?_);refine goesL_ (some 25) rfl rfl Try.func201 (by kernel_rfl) rfl #[.slice A0 l0.length c0,.slice Ao11 x5_2.length co11] rfl (by (try simp only [aD,aE,aF]);first|done|rfl|(simp only [aG,aH];rfl)) ?_;(with_reducible refine (spec_l4Next.calls k2 _ _ l0 _ _ x5_2 t104 _ ?side1 ?side2 ?side3 ?side4 A7.out).mono ?_);(case side1=>repeat (first|exact (Kd.C_below HR0.out HB.out)|(with_reducible refine Kd.C_alloc ?_ _)|(with_reducible refine Kd.C_drewN ?_ _)|(with_reducible refine Kd.C_drew ?_)));(case side2=>exact HC0.out);(case side3=>repeat (first|exact (Kd.R_reads' HO_5.out).2.2|(with_reducible refine Kd.C_alloc ?_ _)|(with_reducible refine Kd.C_drewN ?_ _)|(with_reducible refine Kd.C_drew ?_)));(case side4=>exact (Kd.R_reads' HO_5.out).2.1);rintro e w12 ⟨rfl,hb⟩;refine ⟨_,rfl,?_⟩;have n0_:=aM (Kd.R_below (by (with_reducible repeat (first|apply Kd.R_alloc|apply Kd.R_drewN|apply Kd.R_drew));exact HO_5.out) hb);have n1_:=aM (Qi (by repeat (first|(with_reducible first|exact HB.out|apply Qc|apply Qa|apply Qb)|exact HB.out)) hb);clear HO_5;clear HB;have HO_5:=n0_;have HB:=n1_;clear n0_ n1_;(try clear hb);(try clear hb2);(try clear hk);(try clear hi);have p105:0≤(t104:Int):=of_decide_eq_true (by first|(with_reducible assumption)|assumption);have q105:t104<(x5_2.length:Int):=of_decide_eq_true (by first|(with_reducible assumption)|assumption);obtain ⟨ad105,e105,hx105_0⟩:=Kd.at_int (Kd.R_reads' HO_5.out).2.2 t104 p105 q105;cases e105;replace p105:=eq_true p105;replace q105:=eq_true q105;have p10:0≤(t104:Int):=of_decide_eq_true (by first|(with_reducible assumption)|assumption);have q10:(t104:Int)<((x5_2.length:Int):Int):=of_decide_eq_true (by first|(with_reducible assumption)|assumption);obtain ⟨go10,co10,eo10,gb10,gl10,cl10,HG10⟩:=Kd.R_form HO_5.out (by omega);(first|cases eo10|(injection eo10 with ea_ en_ ec_;(first|subst ea_|(injection ea_ with ea_;subst ea_));subst ec_;clear en_));have GB10:=aM gb10;have GG10:=aM HG10;clear gb10 gl10 HG10;(first|simp only [add_plain] at hx105_0|skip);obtain ⟨hx10_0,hf10_0⟩:=Kd.R_celln 0 HO_5.out (t104:Int) p10 q10;replace p10:=eq_true p10;replace q10:=eq_true q10;obtain ⟨hy13_,hz13_⟩:=Kd.R_celln 0 HO_5.out (t104:Int) (of_decide_eq_true (by first|(with_reducible assumption)|assumption)) (of_decide_eq_true (by first|(with_reducible assumption)|assumption));have HP13:=Kd.R_putg HO_5.out (t104:Int) (wrap64 ((rd x5_2 t104)+1)))|((with_reducible refine gate_store (t:=3) (p:=29) rfl ?_);refine store_event (t:=3) (p:=29) (v:=?vo_w14) (w1:=(w12.setCell ⟨go10,(t104:Int).toNat,none⟩ (.int .i64 (wrap64 ((rd x5_2 t104)+1))))) ?hg ?ho ?hn ?hr ?_;(case ho=>rfl);(case hg=>rfl);(case hn=>rfl);(case hr=>first|(go_simp;done)|(go_simp;rfl));intro w14 hw;have hg:w12.grownBy w14 (some go10):=(by rw [hw];exact HP13.2);have hp_:Kd.R (Kd.int .i64) 3 w14 w.heap.size (fun _=>True) (.slice (some ⟨go10,0,none⟩) x5_2.length co11) y106:=(by rw [hw,Ny106.out];exact HP13.1);clear HP13;have n0_:=aM (hp_);have n1_:=aM ((by rw [hw];exact Qg (HB.out) GB10.out:Below w.heap.size w w14));clear HO_5;clear HB;have HO_5:=n0_;have HB:=n1_;clear n0_ n1_;clear hg hw hp_))
          go_roundg k2
          case measure=>have:=HK1.out;have:=HK2.out;omega
          case rel=>exact ⟨(y106),(wrap64 (x6_2+1)),(by first|rfl|(simp;done)|(simp [*];done)),H',⟨by have:=HK1.out;have:=HK2.out;omega⟩,⟨by (with_reducible repeat (first|apply Kd.R_alloc|apply Kd.R_drewN|apply Kd.R_drew));exact HO_5.out⟩,⟨by repeat (first|(with_reducible first|exact HB.out|apply Qc|apply Qa|apply Qb)|exact HB.out)⟩⟩
         ·rw [if_neg c9] at H;exact absurd H (by simp)
        ·rw [if_neg c8] at H;exact absurd H (by simp)
       ·rw [if_neg c6] at H;have c6b0:decide (x6_2<a1)=false:=decide_eq_false c6;clear c6;obtain rfl:=Option.some.inj H;go_wp2
        go_ret
        exact ⟨_,by first|rfl|(simp [errW_none,errW_some] <;> rfl)|(simp [*,errW_none,errW_some] <;> rfl),by (with_reducible repeat (first|apply Kd.R_alloc|apply Kd.R_drewN|apply Kd.R_drew));exact HO_5.out,by repeat (first|(with_reducible first|exact HB.out|apply Qc|apply Qa|apply Qb)|exact HB.out)⟩
end Go.Proofs.Ytpagpbamdpllnaa.Print
