/- No counts with as few places gain more than the best (Bellman), for drawn offers: no condition but the statement's own. -/
import Derived.Test.YtpagpbamdpllnaaProg
import Derived.Test.YtpagpbamdpllnaaCFnChoicew0
import Derived.Below
import Derived.Deep.Draws
import Derived.Deep.AppendLies
import Derived.Maps.AppendAt
import Derived.OwnWalk
import Derived.Laws.BytesArg
import Derived.Laws.MakeOwn
import Derived.Laws.OwnMore
import Derived.Deep.OwnRows
import Derived.Tactics
import Derived.Lib.ConvBytes
import Derived.Laws.Slices
import Derived.WalkKit
import Derived.KernelRfl
import Derived.RowKit3
import Derived.Deep.LoopGhost
import Derived.Deep.QuietTactic
import Derived.BigQuiet
import Derived.WideLaws
import Derived.Deep.DeepCutAuto
import Derived.Deep.CutBlock
import Derived.Deep.RegionHeld3
import Derived.Laws.Rows
import Derived.Lib.AppendStr
import Derived.ArgAppend
import Derived.Laws.IdiomCopy
import Derived.OrdersHeld
import Derived.Laws.BitsLemmas
import Derived.RowKit
import Derived.Laws.CopyOwn
import Derived.Deep.RegionLaw
set_option linter.unusedVariables false
set_option linter.unusedSimpArgs false
namespace Go.Proofs.Ytpagpbamdpllnaa.Print
open Go.RowKit Go.Proofs.YtpagpbamdpllnaaW.PrintWords Go.Proofs.YtpagpbamdpllnaaW.PrintLast Go.Proofs.YtpagpbamdpllnaaW.PrintMore
theorem aM {p : Prop} (h : p) : Aside0 p := ⟨h⟩
theorem aA : type_of% @List.setIfInBounds_toArray.{0} := @List.setIfInBounds_toArray
theorem aB : type_of% @List.set_cons_zero.{0} := @List.set_cons_zero
theorem aC : type_of% @List.set_cons_succ.{0} := @List.set_cons_succ
theorem aD : type_of% @List.map_toArray.{0,0} := @List.map_toArray
theorem aE : type_of% @List.map_cons.{0,0} := @List.map_cons
theorem aF : type_of% @List.map_nil.{0,0} := @List.map_nil
theorem aG : type_of% @List.length_drop.{0} := @List.length_drop
theorem aH : type_of% @List.length_take.{0} := @List.length_take
theorem aI : type_of% @World.block_lt_of_cell? := @World.block_lt_of_cell?
theorem aJ : type_of% @Option.bind_eq_some_iff.{0,0} := @Option.bind_eq_some_iff
end Go.Proofs.Ytpagpbamdpllnaa.Print

namespace Go.Proofs.Ytpagpbamdpllnaa.Print
open Go.RowKit Go.Proofs.YtpagpbamdpllnaaW.PrintWords Go.Proofs.YtpagpbamdpllnaaW.PrintLast Go.Proofs.YtpagpbamdpllnaaW.PrintMore
attribute [local go_sem] max2_int min2_int max_two min_two max_three min_three max_four min_four



def errW:Option Int→Value
  |none=> .nilIface
  |some c=> .iface 0 (.int .i64 c)
theorem errW_none:errW none= .nilIface:=rfl
theorem errW_some (c:Int):errW (some c)= .iface 0 (.int .i64 c):=rfl

theorem info3:(Try.prog.info? 3).map (fun i=>(i.zero,i.size,i.bytes))=some (some (.int .i64 0),1,8):=by kernel_rfl
theorem info4:(Try.prog.info? 4).map (fun i=>(i.zero,i.size,i.bytes))=some (some (.bool false),1,1):=by kernel_rfl
theorem info23:(Try.prog.info? 23).map (fun i=>(i.zero,i.size,i.bytes))=some (some (.slice none 0 0),1,24):=by kernel_rfl
theorem info35:(Try.prog.info? 35).map (fun i=>(i.zero,i.size,i.bytes))=some (some (.agg #[(.int .i64 0),(.int .i64 0)]),2,16):=by kernel_rfl
theorem info44:(Try.prog.info? 44).map (fun i=>(i.zero,i.size,i.bytes))=some (some (.agg #[(.int .i64 0),(.int .i64 0),(.int .i64 0),(.int .i64 0)]),4,32):=by kernel_rfl
theorem info53:(Try.prog.info? 53).map (fun i=>(i.zero,i.size,i.bytes))=some (some (.agg #[(.slice none 0 0)]),1,24):=by kernel_rfl
theorem info88:(Try.prog.info? 88).map (fun i=>(i.zero,i.size,i.bytes))=some (some (.slice none 0 0),1,24):=by kernel_rfl
-- the values' own types
def rd_L2 (xs:List (List Int)) (i:Int):(List Int):=xs.getD i.toNat ([]:List Int)
theorem at_L2 {w:World} {A:Option Addr} {n:Nat} {xs:List (List Int)} (h:Kd.C (Kd.slice 3 (Kd.int .i64)) w A n xs) (i:Int) (h0:0≤i) (h1:i<n):∃ ad A0 c0,A=some ad∧w.cell? (ad.add i.toNat)=some (.slice A0 (rd_L2 xs i).length c0)∧(rd_L2 xs i).length≤c0∧(Kd.int .i64).C w A0 (rd_L2 xs i).length (rd_L2 xs i):=by
  obtain ⟨ad,c,e,_,hK,hc0⟩:=Kd.C_get h ([]:List Int) i h0 h1;have hc:∀ j u,c[j]? = some u→w.cell? (ad.add (i.toNat * 1+j))=some u:=hc0;obtain ⟨A0,c0,rfl,l0,g0⟩:=hK;exact ⟨ad,A0,c0,e,by have hq:=hc 0 _ rfl;rwa [Nat.mul_one,Nat.add_zero] at hq,l0,g0⟩

structure S35 where
  f0:Int
  f1:Int
def z35:S35:=⟨(0:Int),(0:Int)⟩
def k35:Kd S35:=Kd.iso (Kd.pair (Kd.int .i64) (Kd.int .i64)) (fun x:S35=>(x.f0,x.f1))
theorem k35_heap:Kd.Heap k35:=Kd.heap_iso _ (Kd.heap_pair (Kd.heap_int .i64) (Kd.heap_int .i64))
theorem k35_open {w:World} {x:S35} {cs:List Value} (h:k35.K w x cs):cs=[.int .i64 x.f0,.int .i64 x.f1]:=by
  obtain ⟨_,_,rfl,rfl,rfl⟩:=h;exact rfl
theorem k35_openM {w:World} {base:Nat} {ok:Nat→Prop} {x:S35} {cs:List Value} (h:k35.M w base ok x cs):cs=[.int .i64 x.f0,.int .i64 x.f1]:=by
  obtain ⟨_,_,rfl,rfl,rfl⟩:=h;exact rfl
theorem k35_mk (w:World) (x:S35)  :k35.K w x [.int .i64 x.f0,.int .i64 x.f1]:=⟨[.int .i64 x.f0],[.int .i64 x.f1],rfl,rfl,rfl⟩
theorem k35_mkM (w:World) (base:Nat) (ok:Nat→Prop) (x:S35)  :k35.M w base ok x [.int .i64 x.f0,.int .i64 x.f1]:=⟨[.int .i64 x.f0],[.int .i64 x.f1],rfl,rfl,rfl⟩
theorem k35_mkF (W:World) (ok:Nat→Prop) (x:S35):Kd.FK k35 W ok x [.int .i64 x.f0,.int .i64 x.f1]:=fun W2 _=>k35_mk W2 x
def rd_T35 (xs:List S35) (i:Int):S35:=xs.getD i.toNat z35
theorem at_T35 {w:World} {A:Option Addr} {n:Nat} {xs:List S35} (h:Kd.C k35 w A n xs) (i:Int) (h0:0≤i) (h1:i<n):∃ ad,A=some ad∧w.cell? (ad.add (i.toNat * 2))=some (.int .i64 (rd_T35 xs i).f0)∧w.cell? ⟨(ad.add (i.toNat * 2)).block,(ad.add (i.toNat * 2)).off+1,none⟩=some (.int .i64 (rd_T35 xs i).f1):=by
  obtain ⟨ad,c,e,_,hK,hc0⟩:=Kd.C_get h z35 i h0 h1;have hc:∀ j u,c[j]? = some u→w.cell? (ad.add (i.toNat * 2+j))=some u:=hc0;obtain rfl:=k35_open hK;exact ⟨ad,e,hc 0 _ rfl,by rw [←add_field _ _ 1 (by omega)];exact hc 1 _ rfl⟩

structure S44 where
  f0:S35
  f1:S35
def z44:S44:=⟨z35,z35⟩
def k44:Kd S44:=Kd.iso (Kd.pair k35 k35) (fun x:S44=>(x.f0,x.f1))
theorem k44_heap:Kd.Heap k44:=Kd.heap_iso _ (Kd.heap_pair k35_heap k35_heap)
theorem k44_open {w:World} {x:S44} {cs:List Value} (h:k44.K w x cs):cs=[.int .i64 x.f0.f0,.int .i64 x.f0.f1,.int .i64 x.f1.f0,.int .i64 x.f1.f1]:=by
  obtain ⟨_,_,rfl,s0,s2⟩:=h;obtain rfl:=k35_open s0;obtain rfl:=k35_open s2;exact rfl
theorem k44_openM {w:World} {base:Nat} {ok:Nat→Prop} {x:S44} {cs:List Value} (h:k44.M w base ok x cs):cs=[.int .i64 x.f0.f0,.int .i64 x.f0.f1,.int .i64 x.f1.f0,.int .i64 x.f1.f1]:=by
  obtain ⟨_,_,rfl,s0,s2⟩:=h;obtain rfl:=k35_openM s0;obtain rfl:=k35_openM s2;exact rfl
theorem k44_mk (w:World) (x:S44)  :k44.K w x [.int .i64 x.f0.f0,.int .i64 x.f0.f1,.int .i64 x.f1.f0,.int .i64 x.f1.f1]:=⟨[.int .i64 x.f0.f0,.int .i64 x.f0.f1],[.int .i64 x.f1.f0,.int .i64 x.f1.f1],rfl,(k35_mk w x.f0),(k35_mk w x.f1)⟩
theorem k44_mkM (w:World) (base:Nat) (ok:Nat→Prop) (x:S44)  :k44.M w base ok x [.int .i64 x.f0.f0,.int .i64 x.f0.f1,.int .i64 x.f1.f0,.int .i64 x.f1.f1]:=⟨[.int .i64 x.f0.f0,.int .i64 x.f0.f1],[.int .i64 x.f1.f0,.int .i64 x.f1.f1],rfl,(k35_mkM w base ok x.f0),(k35_mkM w base ok x.f1)⟩
theorem k44_mkF (W:World) (ok:Nat→Prop) (x:S44):Kd.FK k44 W ok x [.int .i64 x.f0.f0,.int .i64 x.f0.f1,.int .i64 x.f1.f0,.int .i64 x.f1.f1]:=fun W2 _=>k44_mk W2 x
def rd_T44 (xs:List S44) (i:Int):S44:=xs.getD i.toNat z44
theorem at_T44 {w:World} {A:Option Addr} {n:Nat} {xs:List S44} (h:Kd.C k44 w A n xs) (i:Int) (h0:0≤i) (h1:i<n):∃ ad,A=some ad∧w.cell? (ad.add (i.toNat * 4))=some (.int .i64 (rd_T44 xs i).f0.f0)∧w.cell? ⟨(ad.add (i.toNat * 4)).block,(ad.add (i.toNat * 4)).off+1,none⟩=some (.int .i64 (rd_T44 xs i).f0.f1)∧w.cell? ⟨(ad.add (i.toNat * 4)).block,(ad.add (i.toNat * 4)).off+2,none⟩=some (.int .i64 (rd_T44 xs i).f1.f0)∧w.cell? ⟨(ad.add (i.toNat * 4)).block,(ad.add (i.toNat * 4)).off+3,none⟩=some (.int .i64 (rd_T44 xs i).f1.f1):=by
  obtain ⟨ad,c,e,_,hK,hc0⟩:=Kd.C_get h z44 i h0 h1;have hc:∀ j u,c[j]? = some u→w.cell? (ad.add (i.toNat * 4+j))=some u:=hc0;obtain rfl:=k44_open hK;exact ⟨ad,e,hc 0 _ rfl,by rw [←add_field _ _ 1 (by omega)];exact hc 1 _ rfl,by rw [←add_field _ _ 2 (by omega)];exact hc 2 _ rfl,by rw [←add_field _ _ 3 (by omega)];exact hc 3 _ rfl⟩

structure S53 where
  f0:(List Int)
def z53:S53:=⟨([]:List Int)⟩
def k53:Kd S53:=Kd.iso (Kd.slice 3 (Kd.int .i64)) (fun x:S53=>x.f0)
theorem k53_heap:Kd.Heap k53:=Kd.heap_iso _ (Kd.heap_slice 3 (Kd.heap_int .i64))
theorem k53_open {w:World} {x:S53} {cs:List Value} (h:k53.K w x cs):∃ A0 c0,cs=[.slice A0 x.f0.length c0]∧x.f0.length≤c0∧(Kd.int .i64).C w A0 x.f0.length x.f0:=by
  obtain ⟨A0,c0,rfl,l0,g0⟩:=h;exact ⟨A0,c0,rfl,l0,g0⟩
theorem k53_openM {w:World} {base:Nat} {ok:Nat→Prop} {x:S53} {cs:List Value} (h:k53.M w base ok x cs):∃ v0,cs=[v0]∧(Kd.int .i64).R 3 w base ok v0 x.f0:=by
  obtain ⟨v0,rfl,g0⟩:=h;exact ⟨v0,rfl,g0⟩
theorem k53_mk (w:World) (x:S53) {A0:Option Addr} {c0:Nat} (l0:x.f0.length≤c0) (g0:(Kd.int .i64).C w A0 x.f0.length x.f0):k53.K w x [.slice A0 x.f0.length c0]:=⟨A0,c0,rfl,l0,g0⟩
theorem k53_mkM (w:World) (base:Nat) (ok:Nat→Prop) (x:S53) {v0:Value} (g0:(Kd.int .i64).R 3 w base ok v0 x.f0):k53.M w base ok x [v0]:=⟨v0,rfl,g0⟩
theorem k53_openF {W:World} {ok:Nat→Prop} {x:S53} {cs:List Value} (h:Kd.FK k53 W ok x cs):∃ A0 c0,cs=[.slice A0 x.f0.length c0]∧x.f0.length≤c0∧Kd.F (Kd.int .i64) W ok A0 x.f0.length x.f0:=by
  obtain ⟨A0,c0,rfl,l0,_⟩:=k53_open (Kd.FK_now h);exact ⟨A0,c0,rfl,l0,(fun W' hW=>by obtain ⟨A0_,c0_,he,l0_,g0_⟩:=k53_open (h W' hW);injection (Option.some.inj (show some (Value.slice A0 x.f0.length c0)=some (Value.slice A0_ x.f0.length c0_) from congrArg (fun l=>l[0]?) he)) with ha_ _ _;rw [ha_];exact g0_)⟩
theorem k53_mkF (W:World) (ok:Nat→Prop) (x:S53) {A0:Option Addr} {c0:Nat} (l0:x.f0.length≤c0) (g0:Kd.F (Kd.int .i64) W ok A0 x.f0.length x.f0):Kd.FK k53 W ok x [.slice A0 x.f0.length c0]:=fun W2 hW=>k53_mk W2 x l0 (g0 W2 hW)
def rd_T53 (xs:List S53) (i:Int):S53:=xs.getD i.toNat z53
theorem at_T53 {w:World} {A:Option Addr} {n:Nat} {xs:List S53} (h:Kd.C k53 w A n xs) (i:Int) (h0:0≤i) (h1:i<n):∃ ad A0 c0,A=some ad∧w.cell? (ad.add i.toNat)=some (.slice A0 (rd_T53 xs i).f0.length c0)∧(rd_T53 xs i).f0.length≤c0∧(Kd.int .i64).C w A0 (rd_T53 xs i).f0.length (rd_T53 xs i).f0:=by
  obtain ⟨ad,c,e,_,hK,hc0⟩:=Kd.C_get h z53 i h0 h1;have hc:∀ j u,c[j]? = some u→w.cell? (ad.add (i.toNat * 1+j))=some u:=hc0;obtain ⟨A0,c0,rfl,l0,g0⟩:=k53_open hK;exact ⟨ad,A0,c0,e,by have hq:=hc 0 _ rfl;rwa [Nat.mul_one,Nat.add_zero] at hq,l0,g0⟩

def rd_L7 (xs:List (List Bool)) (i:Int):(List Bool):=xs.getD i.toNat ([]:List Bool)
theorem at_L7 {w:World} {A:Option Addr} {n:Nat} {xs:List (List Bool)} (h:Kd.C (Kd.slice 4 Kd.bool) w A n xs) (i:Int) (h0:0≤i) (h1:i<n):∃ ad A0 c0,A=some ad∧w.cell? (ad.add i.toNat)=some (.slice A0 (rd_L7 xs i).length c0)∧(rd_L7 xs i).length≤c0∧Kd.bool.C w A0 (rd_L7 xs i).length (rd_L7 xs i):=by
  obtain ⟨ad,c,e,_,hK,hc0⟩:=Kd.C_get h ([]:List Bool) i h0 h1;have hc:∀ j u,c[j]? = some u→w.cell? (ad.add (i.toNat * 1+j))=some u:=hc0;obtain ⟨A0,c0,rfl,l0,g0⟩:=hK;exact ⟨ad,A0,c0,e,by have hq:=hc 0 _ rfl;rwa [Nat.mul_one,Nat.add_zero] at hq,l0,g0⟩

def laws_sameInts.l0:Nat→List Int→List Int→Int→Int→Option (Bool)
  |0,_,_,_,_=>none
  |k+1,x0,x1,x12,x13=>if x13<x12 then (if 0≤x13 then (if x13<(x0.length:Int) then (if x13<(x1.length:Int) then (if (rd x0 x13)=(rd x1 x13) then (laws_sameInts.l0 k x0 x1 x12 (wrap64 (x13+1))) else (some false)) else (none)) else (none)) else (none)) else (some true)
def laws_sameInts.f (k:Nat) (l0:List Int) (l1:List Int):Option (Bool):=if (l0.length:Int)=(l1.length:Int) then (laws_sameInts.l0 k l0 l1 (l0.length:Int) 0) else (some false)
set_option maxHeartbeats 8000000 in
set_option maxRecDepth 100000 in
theorem laws_sameInts.calls (k:Nat) (A0:Option Addr) (c0:Nat) (l0:List Int) (A1:Option Addr) (c1:Nat) (l1:List Int) (r:Bool) (w:World) (hr0:Kd.C (Kd.int .i64) w A0 l0.length l0) (hc0:l0.length≤c0) (hr1:Kd.C (Kd.int .i64) w A1 l1.length l1) (hc1:l1.length≤c1) (h:laws_sameInts.f k l0 l1=some r) :
    Calls Try.prog 20 #[.slice A0 l0.length c0,.slice A1 l1.length c1] w fun e w'=>e= .returned (.bool r)∧Drawn0 w w':=by
  have HR0:=aM hr0;have HC0:=aM hc0;clear hr0 hc0;have HR1:=aM hr1;have HC1:=aM hc1;clear hr1 hc1;have H:(if (l0.length:Int)=(l1.length:Int) then (laws_sameInts.l0 k l0 l1 (l0.length:Int) 0) else (some false))=some r:=h;clear h;by_cases c3:(l0.length:Int)=(l1.length:Int)
  ·rw [if_pos c3] at H;have c3b0:((l0.length:Int) == (l1.length:Int))=true:=beq_iff_eq.mpr c3;have c3b1:((l0.length:Int) != (l1.length:Int))=false:=bne_eq_false_iff_eq.mpr c3;have c3b2:(l0.length == l1.length)=true:=by first|simpa using c3|(simp at c3 ⊢;omega)
   clear c3;have H':=aM H;clear H;go_enter Try.func20,Try.ntmps20;go_wp2
   repeat (go_quiet (fail);try go_wp2)
   go_loopg [13] k (fun kq v13 w'=>∃ (x13_1:Int),v13= .int .i64 x13_1∧Aside0 (laws_sameInts.l0 kq l0 l1 (l0.length:Int) x13_1=some r)∧Aside0 (kq≤k)∧Drawn0 w w')
   case atStart=>exact ⟨(0),(by first|rfl|(simp;done)|(simp [*];done)),H',⟨Nat.le_refl _⟩,by repeat (first|exact Drawn0.refl _|apply Drawn0.step)⟩
   case round=>
    clear H';(try clear c1);(try clear c2);(try clear p2);(try clear c3);(try clear c3b0);(try clear c3b1);(try clear c3b2);obtain ⟨x13_1,rfl,HA,HK1,⟨m1,rfl⟩⟩:=hrel
    cases gk with
    |zero=>exact absurd HA.out (by simp [laws_sameInts.l0])
    |succ k1=>
     have H:=HA.out;clear HA;simp only [laws_sameInts.l0] at H;by_cases c4:x13_1<(l0.length:Int)
     ·rw [if_pos c4] at H;have c4b0:decide (x13_1<(l0.length:Int))=true:=decide_eq_true c4;clear c4;by_cases c5:0≤x13_1
      ·rw [if_pos c5] at H;have c5b0:decide (0≤x13_1)=true:=decide_eq_true c5;clear c5;by_cases c6:x13_1<(l0.length:Int)
       ·rw [if_pos c6] at H;have c6b0:decide (x13_1<(l0.length:Int))=true:=decide_eq_true c6;clear c6;by_cases c7:x13_1<(l1.length:Int)
        ·rw [if_pos c7] at H;have c7b0:decide (x13_1<(l1.length:Int))=true:=decide_eq_true c7;clear c7;by_cases c8:(rd l0 x13_1)=(rd l1 x13_1)
         ·rw [if_pos c8] at H;have c8b0:((rd l0 x13_1) == (rd l1 x13_1))=true:=beq_iff_eq.mpr c8;have c8b1:((rd l0 x13_1) != (rd l1 x13_1))=false:=bne_eq_false_iff_eq.mpr c8;clear c8;have H':=aM H;clear H;have p101:0≤(x13_1:Int):=of_decide_eq_true (by first|(with_reducible assumption)|assumption);have q101:x13_1<(l0.length:Int):=of_decide_eq_true (by first|(with_reducible assumption)|assumption);obtain ⟨ad101,e101,hx101_0⟩:=Kd.at_int HR0.out x13_1 p101 q101
          cases e101
          replace p101:=eq_true p101;replace q101:=eq_true q101;have p102:0≤(x13_1:Int):=of_decide_eq_true (by first|(with_reducible assumption)|assumption);have q102:x13_1<(l1.length:Int):=of_decide_eq_true (by first|(with_reducible assumption)|assumption);obtain ⟨ad102,e102,hx102_0⟩:=Kd.at_int HR1.out x13_1 p102 q102
          cases e102
          replace p102:=eq_true p102;replace q102:=eq_true q102;go_wp2
          repeat (go_quiet (fail);try go_wp2)
          go_roundg k1
          case measure=>have:=HK1.out;omega
          case rel=>exact ⟨(wrap64 (x13_1+1)),(by first|rfl|(simp;done)|(simp [*];done)),H',⟨by have:=HK1.out;omega⟩,by repeat (first|exact Drawn0.refl _|apply Drawn0.step)⟩
         ·rw [if_neg c8] at H;have c8b0:((rd l0 x13_1) == (rd l1 x13_1))=false:=beq_eq_false_iff_ne.mpr c8;have c8b1:((rd l0 x13_1) != (rd l1 x13_1))=true:=bne_iff_ne.mpr c8;obtain rfl:=Option.some.inj H;have p101:0≤(x13_1:Int):=of_decide_eq_true (by first|(with_reducible assumption)|assumption);have q101:x13_1<(l0.length:Int):=of_decide_eq_true (by first|(with_reducible assumption)|assumption);obtain ⟨ad101,e101,hx101_0⟩:=Kd.at_int HR0.out x13_1 p101 q101
          cases e101
          replace p101:=eq_true p101;replace q101:=eq_true q101;have p102:0≤(x13_1:Int):=of_decide_eq_true (by first|(with_reducible assumption)|assumption);have q102:x13_1<(l1.length:Int):=of_decide_eq_true (by first|(with_reducible assumption)|assumption);obtain ⟨ad102,e102,hx102_0⟩:=Kd.at_int HR1.out x13_1 p102 q102
          cases e102
          replace p102:=eq_true p102;replace q102:=eq_true q102;go_wp2
          repeat (go_quiet (fail);try go_wp2)
          go_ret
          exact ⟨by first|rfl|(simp;done)|(simp [*];done),by repeat (first|exact Drawn0.refl _|apply Drawn0.step)⟩
        ·rw [if_neg c7] at H;exact absurd H (by simp)
       ·rw [if_neg c6] at H;exact absurd H (by simp)
      ·rw [if_neg c5] at H;exact absurd H (by simp)
     ·rw [if_neg c4] at H;have c4b0:decide (x13_1<(l0.length:Int))=false:=decide_eq_false c4;clear c4;obtain rfl:=Option.some.inj H;go_wp2
      repeat (go_quiet (fail);try go_wp2)
      go_ret
      exact ⟨by first|rfl|(simp;done)|(simp [*];done),by repeat (first|exact Drawn0.refl _|apply Drawn0.step)⟩
  ·rw [if_neg c3] at H;have c3b0:((l0.length:Int) == (l1.length:Int))=false:=beq_eq_false_iff_ne.mpr c3;have c3b1:((l0.length:Int) != (l1.length:Int))=true:=bne_iff_ne.mpr c3;have c3b2:(l0.length == l1.length)=false:=by first|simpa using c3|(simp at c3 ⊢;omega)
   obtain rfl:=Option.some.inj H;go_enter Try.func20,Try.ntmps20;go_wp2
   repeat (go_quiet (fail);try go_wp2)
   go_ret
   exact ⟨by first|rfl|(simp;done)|(simp [*];done),by repeat (first|exact Drawn0.refl _|apply Drawn0.step)⟩

def laws_sumOf.l0:Nat→Int→List Int→Int→Int→Option (Int)
  |0,_,_,_,_=>none
  |k+1,x3,x6,x7,x8=>if x8<x7 then (if 0≤x8 then (if x8<(x6.length:Int) then (laws_sumOf.l0 k (wrap64 (x3+(rd x6 x8))) x6 x7 (wrap64 (x8+1))) else (none)) else (none)) else (some x3)
def laws_sumOf.f (k:Nat) (l0:List Int):Option (Int):=laws_sumOf.l0 k 0 l0 (l0.length:Int) 0
set_option maxHeartbeats 8000000 in
set_option maxRecDepth 100000 in
theorem laws_sumOf.calls (k:Nat) (A0:Option Addr) (c0:Nat) (l0:List Int) (r:Int) (w:World) (hr0:Kd.C (Kd.int .i64) w A0 l0.length l0) (hc0:l0.length≤c0) (h:laws_sumOf.f k l0=some r) :
    Calls Try.prog 22 #[.slice A0 l0.length c0] w fun e w'=>e= .returned (.int .i64 r)∧Drawn0 w w':=by
  have HR0:=aM hr0;have HC0:=aM hc0;clear hr0 hc0;have H:(laws_sumOf.l0 k 0 l0 (l0.length:Int) 0)=some r:=h;clear h;have H':=aM H;clear H;go_enter Try.func22,Try.ntmps22;go_wp2;go_loopg [3,8] k (fun kq v3 v8 w'=>∃ (x3_1:Int) (x8_1:Int),v3= .int .i64 x3_1∧v8= .int .i64 x8_1∧Aside0 (laws_sumOf.l0 kq x3_1 l0 (l0.length:Int) x8_1=some r)∧Aside0 (kq≤k)∧Drawn0 w w')
  case atStart=>exact ⟨(0),(0),(by first|rfl|(simp;done)|(simp [*];done)),(by first|rfl|(simp;done)|(simp [*];done)),H',⟨Nat.le_refl _⟩,by repeat (first|exact Drawn0.refl _|apply Drawn0.step)⟩
  case round=>
   clear H';obtain ⟨x3_1,x8_1,rfl,rfl,HA,HK1,⟨m1,rfl⟩⟩:=hrel
   cases gk with
   |zero=>exact absurd HA.out (by simp [laws_sumOf.l0])
   |succ k1=>
    have H:=HA.out;clear HA;simp only [laws_sumOf.l0] at H;by_cases c2:x8_1<(l0.length:Int)
    ·rw [if_pos c2] at H;have c2b0:decide (x8_1<(l0.length:Int))=true:=decide_eq_true c2;clear c2;by_cases c3:0≤x8_1
     ·rw [if_pos c3] at H;have c3b0:decide (0≤x8_1)=true:=decide_eq_true c3;clear c3;by_cases c4:x8_1<(l0.length:Int)
      ·rw [if_pos c4] at H;have c4b0:decide (x8_1<(l0.length:Int))=true:=decide_eq_true c4;clear c4;have H':=aM H;clear H;have p101:0≤(x8_1:Int):=of_decide_eq_true (by first|(with_reducible assumption)|assumption);have q101:x8_1<(l0.length:Int):=of_decide_eq_true (by first|(with_reducible assumption)|assumption);obtain ⟨ad101,e101,hx101_0⟩:=Kd.at_int HR0.out x8_1 p101 q101
       cases e101
       replace p101:=eq_true p101;replace q101:=eq_true q101;go_wp2;go_roundg k1
       case measure=>have:=HK1.out;omega
       case rel=>exact ⟨(wrap64 (x3_1+(rd l0 x8_1))),(wrap64 (x8_1+1)),(by first|rfl|(simp;done)|(simp [*];done)),(by first|rfl|(simp;done)|(simp [*];done)),H',⟨by have:=HK1.out;omega⟩,by repeat (first|exact Drawn0.refl _|apply Drawn0.step)⟩
      ·rw [if_neg c4] at H;exact absurd H (by simp)
     ·rw [if_neg c3] at H;exact absurd H (by simp)
    ·rw [if_neg c2] at H;have c2b0:decide (x8_1<(l0.length:Int))=false:=decide_eq_false c2;clear c2;obtain rfl:=Option.some.inj H;go_wp2
     go_ret
     exact ⟨by first|rfl|(simp;done)|(simp [*];done),by repeat (first|exact Drawn0.refl _|apply Drawn0.step)⟩

def spec_l1In.f (a0:Int) (a1:Int) (a2:Int):Option (Bool):=if a0 ≥ a1 then (some (decide (a0≤a2))) else (some false)
set_option maxHeartbeats 8000000 in
set_option maxRecDepth 100000 in
theorem spec_l1In.calls (a0:Int) (a1:Int) (a2:Int) (r:Bool) (w:World) (h:spec_l1In.f a0 a1 a2=some r) :
    Calls Try.prog 152 #[.int .i64 a0,.int .i64 a1,.int .i64 a2] w fun e w'=>e= .returned (.bool r)∧Drawn0 w w':=by
  have H:(if a0 ≥ a1 then (some (decide (a0≤a2))) else (some false))=some r:=h;clear h;by_cases c4:a0 ≥ a1
  ·rw [if_pos c4] at H;have c4b0:decide (a1≤a0)=true:=decide_eq_true c4;clear c4;obtain rfl:=Option.some.inj H;go_enter Try.func152,Try.ntmps152;go_wp2
   go_ret
   exact ⟨by first|rfl|(simp;done)|(simp [*];done),by repeat (first|exact Drawn0.refl _|apply Drawn0.step)⟩
  ·rw [if_neg c4] at H;have c4b0:decide (a1≤a0)=false:=decide_eq_false c4;clear c4;obtain rfl:=Option.some.inj H;go_enter Try.func152,Try.ntmps152;go_wp2
   go_ret
   exact ⟨by first|rfl|(simp;done)|(simp [*];done),by repeat (first|exact Drawn0.refl _|apply Drawn0.step)⟩

def spec_l1All.l0:Nat→Int→Int→List Int→Int→Int→Option (Bool)
  |0,_,_,_,_,_=>none
  |k+1,x1,x2,x9,x10,x11=>if x11<x10 then (if 0≤x11 then (if x11<(x9.length:Int) then ((spec_l1In.f (rd x9 x11) x1 x2).bind fun t102=>(if t102=true then (spec_l1All.l0 k x1 x2 x9 x10 (wrap64 (x11+1))) else (some false))) else (none)) else (none)) else (some true)
def spec_l1All.f (k:Nat) (l0:List Int) (a1:Int) (a2:Int):Option (Bool):=spec_l1All.l0 k a1 a2 l0 (l0.length:Int) 0
set_option maxHeartbeats 8000000 in
set_option maxRecDepth 100000 in
theorem spec_l1All.calls (k:Nat) (A0:Option Addr) (c0:Nat) (l0:List Int) (a1:Int) (a2:Int) (r:Bool) (w:World) (hr0:Kd.C (Kd.int .i64) w A0 l0.length l0) (hc0:l0.length≤c0) (h:spec_l1All.f k l0 a1 a2=some r) :
    Calls Try.prog 125 #[.slice A0 l0.length c0,.int .i64 a1,.int .i64 a2] w fun e w'=>e= .returned (.bool r)∧Drawn0 w w':=by
  have HR0:=aM hr0;have HC0:=aM hc0;clear hr0 hc0;have H:(spec_l1All.l0 k a1 a2 l0 (l0.length:Int) 0)=some r:=h;clear h;have H':=aM H;clear H;go_enter Try.func125,Try.ntmps125;go_wp2;go_loopg [11] k (fun kq v11 w'=>∃ (x11_1:Int),v11= .int .i64 x11_1∧Aside0 (spec_l1All.l0 kq a1 a2 l0 (l0.length:Int) x11_1=some r)∧Aside0 (kq≤k)∧Drawn0 w w')
  case atStart=>exact ⟨(0),(by first|rfl|(simp;done)|(simp [*];done)),H',⟨Nat.le_refl _⟩,by repeat (first|exact Drawn0.refl _|apply Drawn0.step)⟩
  case round=>
   clear H';(try clear c1);(try clear p2);obtain ⟨x11_1,rfl,HA,HK1,⟨m1,rfl⟩⟩:=hrel
   cases gk with
   |zero=>exact absurd HA.out (by simp [spec_l1All.l0])
   |succ k1=>
    have H:=HA.out;clear HA;simp only [spec_l1All.l0] at H;by_cases c4:x11_1<(l0.length:Int)
    ·rw [if_pos c4] at H;have c4b0:decide (x11_1<(l0.length:Int))=true:=decide_eq_true c4;clear c4;by_cases c5:0≤x11_1
     ·rw [if_pos c5] at H;have c5b0:decide (0≤x11_1)=true:=decide_eq_true c5;clear c5;by_cases c6:x11_1<(l0.length:Int)
      ·rw [if_pos c6] at H;have c6b0:decide (x11_1<(l0.length:Int))=true:=decide_eq_true c6;clear c6;replace H:=Option.bind_eq_some_iff.mp H;obtain ⟨t102,A70,H⟩:=H;replace H:(if t102=true then (spec_l1All.l0 k1 a1 a2 l0 (l0.length:Int) (wrap64 (x11_1+1))) else (some false))=some r:=H;have A7:=aM A70;clear A70;by_cases c8:t102=true
       ·subst c8;have H1:(spec_l1All.l0 k1 a1 a2 l0 (l0.length:Int) (wrap64 (x11_1+1)))=some r:=by rw [if_pos rfl] at H;exact H
        clear H;have H:=H1;clear H1;have H':=aM H;clear H;have p101:0≤(x11_1:Int):=of_decide_eq_true (by first|(with_reducible assumption)|assumption);have q101:x11_1<(l0.length:Int):=of_decide_eq_true (by first|(with_reducible assumption)|assumption);obtain ⟨ad101,e101,hx101_0⟩:=Kd.at_int HR0.out x11_1 p101 q101
        cases e101
        replace p101:=eq_true p101;replace q101:=eq_true q101;go_wp2_with (first|((with_reducible refine Qt (f:=152) rfl ?_);refine goesL_ (some 18) rfl rfl Try.func152 (by kernel_rfl) rfl #[.int .i64 (rd l0 x11_1),.int .i64 a1,.int .i64 a2] rfl (by (try simp only [aD,aE,aF]);first|done|rfl|(simp only [aG,aH];rfl)) ?_;(with_reducible refine (spec_l1In.calls (rd l0 x11_1) a1 a2 true _ A7.out).mono ?_);rintro e w' ⟨rfl,⟨nd,rfl⟩⟩;refine ⟨_,rfl,?_⟩))
        go_roundg k1
        case measure=>have:=HK1.out;omega
        case rel=>exact ⟨(wrap64 (x11_1+1)),(by first|rfl|(simp;done)|(simp [*];done)),H',⟨by have:=HK1.out;omega⟩,by repeat (first|exact Drawn0.refl _|apply Drawn0.step)⟩
       ·replace c8:=Bool.eq_false_iff.mpr c8;subst c8;have H1:(some false)=some r:=by rw [if_neg (show ¬ (false=true) by decide)] at H;exact H
        clear H;have H:=H1;clear H1;obtain rfl:=Option.some.inj H;have p101:0≤(x11_1:Int):=of_decide_eq_true (by first|(with_reducible assumption)|assumption);have q101:x11_1<(l0.length:Int):=of_decide_eq_true (by first|(with_reducible assumption)|assumption);obtain ⟨ad101,e101,hx101_0⟩:=Kd.at_int HR0.out x11_1 p101 q101
        cases e101
        replace p101:=eq_true p101;replace q101:=eq_true q101;go_wp2_with (first|((with_reducible refine Qt (f:=152) rfl ?_);refine goesL_ (some 18) rfl rfl Try.func152 (by kernel_rfl) rfl #[.int .i64 (rd l0 x11_1),.int .i64 a1,.int .i64 a2] rfl (by (try simp only [aD,aE,aF]);first|done|rfl|(simp only [aG,aH];rfl)) ?_;(with_reducible refine (spec_l1In.calls (rd l0 x11_1) a1 a2 false _ A7.out).mono ?_);rintro e w' ⟨rfl,⟨nd,rfl⟩⟩;refine ⟨_,rfl,?_⟩))
        go_ret
        exact ⟨by first|rfl|(simp;done)|(simp [*];done),by repeat (first|exact Drawn0.refl _|apply Drawn0.step)⟩
      ·rw [if_neg c6] at H;exact absurd H (by simp)
     ·rw [if_neg c5] at H;exact absurd H (by simp)
    ·rw [if_neg c4] at H;have c4b0:decide (x11_1<(l0.length:Int))=false:=decide_eq_false c4;clear c4;obtain rfl:=Option.some.inj H;go_wp2
     go_ret
     exact ⟨by first|rfl|(simp;done)|(simp [*];done),by repeat (first|exact Drawn0.refl _|apply Drawn0.step)⟩

def spec_GoodOffers.l0:Nat→List (S53)→List (S53)→Int→Int→Option (Bool)
  |0,_,_,_,_=>none
  |k+1,x0,x5,x6,x7=>if x7<x6 then (if 0≤x7 then (if x7<(x5.length:Int) then (if (((rd_T53 x5 x7).f0).length:Int) > 6 then (some false) else ((spec_l1All.f k ((rd_T53 x5 x7).f0) (-1000) 1000).bind fun t103=>(if t103=true then (spec_GoodOffers.l0 k x0 x5 x6 (wrap64 (x7+1))) else (some false)))) else (none)) else (none)) else (some (decide ((x0.length:Int)≤12)))
def spec_GoodOffers.f (k:Nat) (l0:List (S53)):Option (Bool):=spec_GoodOffers.l0 k l0 l0 (l0.length:Int) 0
set_option maxHeartbeats 8000000 in
set_option maxRecDepth 100000 in
theorem spec_GoodOffers.calls (k:Nat) (A0:Option Addr) (c0:Nat) (l0:List (S53)) (r:Bool) (w:World) (hr0:Kd.C k53 w A0 l0.length l0) (hc0:l0.length≤c0) (h:spec_GoodOffers.f k l0=some r) :
    Calls Try.prog 49 #[.slice A0 l0.length c0] w fun e w'=>e= .returned (.bool r)∧Below w.heap.size w w':=by
  have hu53:=Try.underlying53;have HR0:=aM hr0;have HC0:=aM hc0;clear hr0 hc0;have HB:=aM (Below.refl w.heap.size w);have H:(spec_GoodOffers.l0 k l0 l0 (l0.length:Int) 0)=some r:=h;clear h;have H':=aM H;clear H;go_enter Try.func49,Try.ntmps49;go_wp2;go_loopg [7] k (fun kq v7 w'=>∃ (x7_1:Int),v7= .int .i64 x7_1∧Aside0 (spec_GoodOffers.l0 kq l0 l0 (l0.length:Int) x7_1=some r)∧Aside0 (kq≤k)∧Aside0 (Below w.heap.size w w'))
  case atStart=>exact ⟨(0),(by first|rfl|(simp;done)|(simp [*];done)),H',⟨Nat.le_refl _⟩,⟨by repeat (first|(with_reducible first|exact HB.out|apply Qc|apply Qa|apply Qb)|exact HB.out)⟩⟩
  case round=>
   clear H';obtain ⟨x7_1,rfl,HA,HK1,HB⟩:=hrel
   cases gk with
   |zero=>exact absurd HA.out (by simp [spec_GoodOffers.l0])
   |succ k1=>
    have H:=HA.out;clear HA;simp only [spec_GoodOffers.l0] at H;by_cases c2:x7_1<(l0.length:Int)
    ·rw [if_pos c2] at H;have c2b0:decide (x7_1<(l0.length:Int))=true:=decide_eq_true c2;clear c2;by_cases c3:0≤x7_1
     ·rw [if_pos c3] at H;have c3b0:decide (0≤x7_1)=true:=decide_eq_true c3;clear c3;by_cases c4:x7_1<(l0.length:Int)
      ·rw [if_pos c4] at H;have c4b0:decide (x7_1<(l0.length:Int))=true:=decide_eq_true c4;clear c4;by_cases c5:(((rd_T53 l0 x7_1).f0).length:Int) > 6
       ·rw [if_pos c5] at H;have c5b0:decide (6<(((rd_T53 l0 x7_1).f0).length:Int))=true:=decide_eq_true c5;have c5b1:decide (6<((rd_T53 l0 x7_1).f0).length)=true:=decide_eq_true (by omega);clear c5;obtain rfl:=Option.some.inj H;have p101:0≤(x7_1:Int):=of_decide_eq_true (by first|(with_reducible assumption)|assumption);have q101:x7_1<(l0.length:Int):=of_decide_eq_true (by first|(with_reducible assumption)|assumption);obtain ⟨ad101,A101_0,c101_0,e101,hx101_0,hl101_0,hi101_0⟩:=at_T53 HR0.out x7_1 p101 q101
        cases e101
        replace hx101_0:=(HB.out.cell (aI w _ hx101_0)).trans hx101_0;have HR101_0:=aM hi101_0;have HC101_0:=aM hl101_0;clear hi101_0 hl101_0;replace p101:=eq_true p101;replace q101:=eq_true q101;go_wp2_with (first|((with_reducible refine gate_dst (N:=4) rfl ?_);refine box_event ?hg (N:=4) ?hd (cs:=#[.slice none 0 0]) (t:=53) ?hr ?_;(case hd=>rfl);(case hg=>rfl);(case hr=>first|(go_simp;done)|(go_simp;rfl));intro gb102 hg w6 hbox hb;have n0_:=aM (Qg (by repeat (first|(with_reducible first|exact HB.out|apply Qc|apply Qa|apply Qb)|exact HB.out)) hb);have n1_:=aM (hbox);have n2_:=aM ((by rw [hg];exact (Qk (by repeat (first|(with_reducible first|exact HB.out|apply Qc|apply Qa|apply Qb)|exact HB.out))):w.heap.size≤gb102));have n3_:=aM ((by rw [hg];exact (Qk (by repeat (first|(with_reducible first|exact HB.out|apply Qc|apply Qa|apply Qb)|exact HB.out))):w.heap.size≤gb102));clear HB;have HB:=n0_;have BK102:=n1_;have GW102:=n2_;have GE102:=n3_;clear n0_ n1_ n2_ n3_;clear hb hbox hg;have hcz7_0:w6.cell? ⟨gb102,0,none⟩=some (.slice none 0 0):=(Qu BK102.out 0).trans rfl;have hfz7_0:=Qs BK102.out 0))
        go_ret
        exact ⟨by first|rfl|(simp [errW_none,errW_some] <;> rfl)|(simp [*,errW_none,errW_some] <;> rfl),by repeat (first|(with_reducible first|exact HB.out|apply Qc|apply Qa|apply Qb|refine Qd ?_ GE102.out)|exact HB.out)⟩
       ·rw [if_neg c5] at H;have c5b0:decide (6<(((rd_T53 l0 x7_1).f0).length:Int))=false:=decide_eq_false c5;have c5b1:decide (6<((rd_T53 l0 x7_1).f0).length)=false:=decide_eq_false (by omega);clear c5;replace H:=Option.bind_eq_some_iff.mp H;obtain ⟨t103,A80,H⟩:=H;replace H:(if t103=true then (spec_GoodOffers.l0 k1 l0 l0 (l0.length:Int) (wrap64 (x7_1+1))) else (some false))=some r:=H;have A8:=aM A80;clear A80;by_cases c9:t103=true
        ·subst c9;have H1:(spec_GoodOffers.l0 k1 l0 l0 (l0.length:Int) (wrap64 (x7_1+1)))=some r:=by rw [if_pos rfl] at H;exact H
         clear H;have H:=H1;clear H1;have H':=aM H;clear H;have p101:0≤(x7_1:Int):=of_decide_eq_true (by first|(with_reducible assumption)|assumption);have q101:x7_1<(l0.length:Int):=of_decide_eq_true (by first|(with_reducible assumption)|assumption);obtain ⟨ad101,A101_0,c101_0,e101,hx101_0,hl101_0,hi101_0⟩:=at_T53 HR0.out x7_1 p101 q101
         cases e101
         replace hx101_0:=(HB.out.cell (aI w _ hx101_0)).trans hx101_0;have HR101_0:=aM hi101_0;have HC101_0:=aM hl101_0;clear hi101_0 hl101_0;replace p101:=eq_true p101;replace q101:=eq_true q101;go_wp2_with (first|((with_reducible refine gate_dst (N:=4) rfl ?_);refine box_event ?hg (N:=4) ?hd (cs:=#[.slice none 0 0]) (t:=53) ?hr ?_;(case hd=>rfl);(case hg=>rfl);(case hr=>first|(go_simp;done)|(go_simp;rfl));intro gb102 hg w10 hbox hb;have n0_:=aM (Qg (by repeat (first|(with_reducible first|exact HB.out|apply Qc|apply Qa|apply Qb)|exact HB.out)) hb);have n1_:=aM (hbox);have n2_:=aM ((by rw [hg];exact (Qk (by repeat (first|(with_reducible first|exact HB.out|apply Qc|apply Qa|apply Qb)|exact HB.out))):w.heap.size≤gb102));have n3_:=aM ((by rw [hg];exact (Qk (by repeat (first|(with_reducible first|exact HB.out|apply Qc|apply Qa|apply Qb)|exact HB.out))):w.heap.size≤gb102));clear HB;have HB:=n0_;have BK102:=n1_;have GW102:=n2_;have GE102:=n3_;clear n0_ n1_ n2_ n3_;clear hb hbox hg;have hcz11_0:w10.cell? ⟨gb102,0,none⟩=some (.slice none 0 0):=(Qu BK102.out 0).trans rfl;have hfz11_0:=Qs BK102.out 0)|(go_at_call 125;(with_reducible refine (spec_l1All.calls k1 _ _ ((rd_T53 l0 x7_1).f0) (-1000) 1000 true _ ?side1 ?side2 A8.out).mono ?_);(case side1=>exact Kd.C_below HR101_0.out (by repeat (first|(with_reducible first|exact HB.out|apply Qc|apply Qa|apply Qb|refine Qd ?_ GE102.out)|exact HB.out)));(case side2=>exact HC101_0.out);rintro e w' ⟨rfl,⟨nd,rfl⟩⟩))
         go_roundg k1
         case measure=>have:=HK1.out;omega
         case rel=>exact ⟨(wrap64 (x7_1+1)),(by first|rfl|(simp;done)|(simp [*];done)),H',⟨by have:=HK1.out;omega⟩,⟨by repeat (first|(with_reducible first|exact HB.out|apply Qc|apply Qa|apply Qb|refine Qd ?_ GE102.out)|exact HB.out)⟩⟩
        ·replace c9:=Bool.eq_false_iff.mpr c9;subst c9;have H1:(some false)=some r:=by rw [if_neg (show ¬ (false=true) by decide)] at H;exact H
         clear H;have H:=H1;clear H1;obtain rfl:=Option.some.inj H;have p101:0≤(x7_1:Int):=of_decide_eq_true (by first|(with_reducible assumption)|assumption);have q101:x7_1<(l0.length:Int):=of_decide_eq_true (by first|(with_reducible assumption)|assumption);obtain ⟨ad101,A101_0,c101_0,e101,hx101_0,hl101_0,hi101_0⟩:=at_T53 HR0.out x7_1 p101 q101
         cases e101
         replace hx101_0:=(HB.out.cell (aI w _ hx101_0)).trans hx101_0;have HR101_0:=aM hi101_0;have HC101_0:=aM hl101_0;clear hi101_0 hl101_0;replace p101:=eq_true p101;replace q101:=eq_true q101;go_wp2_with (first|((with_reducible refine gate_dst (N:=4) rfl ?_);refine box_event ?hg (N:=4) ?hd (cs:=#[.slice none 0 0]) (t:=53) ?hr ?_;(case hd=>rfl);(case hg=>rfl);(case hr=>first|(go_simp;done)|(go_simp;rfl));intro gb102 hg w12 hbox hb;have n0_:=aM (Qg (by repeat (first|(with_reducible first|exact HB.out|apply Qc|apply Qa|apply Qb)|exact HB.out)) hb);have n1_:=aM (hbox);have n2_:=aM ((by rw [hg];exact (Qk (by repeat (first|(with_reducible first|exact HB.out|apply Qc|apply Qa|apply Qb)|exact HB.out))):w.heap.size≤gb102));have n3_:=aM ((by rw [hg];exact (Qk (by repeat (first|(with_reducible first|exact HB.out|apply Qc|apply Qa|apply Qb)|exact HB.out))):w.heap.size≤gb102));clear HB;have HB:=n0_;have BK102:=n1_;have GW102:=n2_;have GE102:=n3_;clear n0_ n1_ n2_ n3_;clear hb hbox hg;have hcz13_0:w12.cell? ⟨gb102,0,none⟩=some (.slice none 0 0):=(Qu BK102.out 0).trans rfl;have hfz13_0:=Qs BK102.out 0)|(go_at_call 125;(with_reducible refine (spec_l1All.calls k1 _ _ ((rd_T53 l0 x7_1).f0) (-1000) 1000 false _ ?side1 ?side2 A8.out).mono ?_);(case side1=>exact Kd.C_below HR101_0.out (by repeat (first|(with_reducible first|exact HB.out|apply Qc|apply Qa|apply Qb|refine Qd ?_ GE102.out)|exact HB.out)));(case side2=>exact HC101_0.out);rintro e w' ⟨rfl,⟨nd,rfl⟩⟩))
         go_ret
         exact ⟨by first|rfl|(simp [errW_none,errW_some] <;> rfl)|(simp [*,errW_none,errW_some] <;> rfl),by repeat (first|(with_reducible first|exact HB.out|apply Qc|apply Qa|apply Qb|refine Qd ?_ GE102.out)|exact HB.out)⟩
      ·rw [if_neg c4] at H;exact absurd H (by simp)
     ·rw [if_neg c3] at H;exact absurd H (by simp)
    ·rw [if_neg c2] at H;have c2b0:decide (x7_1<(l0.length:Int))=false:=decide_eq_false c2;clear c2;obtain rfl:=Option.some.inj H;go_wp2
     go_ret
     exact ⟨by first|rfl|(simp [errW_none,errW_some] <;> rfl)|(simp [*,errW_none,errW_some] <;> rfl),by repeat (first|(with_reducible first|exact HB.out|apply Qc|apply Qa|apply Qb)|exact HB.out)⟩

mutual
def spec_GainsOf.j0:Nat→Int→Int→Int→Int→Bool→Option (List Int×Bool)
  |0,_,_,_,_,_=>none
  |k+1,x0,x1,x2,x3,x29=>if x29=true then (some (([]:List Int),false)) else (spec_GainsOf.l0 k x0 x1 x2 x3 1 ([]:List Int))
def spec_GainsOf.l0:Nat→Int→Int→Int→Int→Int→List Int→Option (List Int×Bool)
  |0,_,_,_,_,_,_=>none
  |k+1,x0,x1,x2,x3,x11,x107000=>if x11≤6 then (if x11=0 then (none) else (if x107000.length<17592186044416 then (spec_GainsOf.l0 k x0 x1 x2 x3 (wrap64 (x11+1)) (x107000 ++ [wrap64 ((wrap64 (x2 * x0)) - (wrap64 (Int.tdiv (wrap64 ((wrap64 ((wrap64 (x3 * x1))+x11)) - 1)) x11)))])) else (none))) else ((spec_GoodOffers.f k (([(⟨x107000⟩:S53)]:List (S53)))).bind fun t113=>(if t113=true then (some (x107000,true)) else (some (([]:List Int),false))))
end
def spec_GainsOf.f (k:Nat) (a0:Int) (a1:Int) (a2:Int) (a3:Int):Option (List Int×Bool):=(spec_l1In.f a0 0 100).bind fun t102=>(if t102=true then ((spec_l1In.f a1 0 100).bind fun t103=>(if t103=true then ((spec_l1In.f a2 0 10).bind fun t104=>(if t104=true then ((spec_l1In.f a3 0 10).bind fun t105=>(spec_GainsOf.j0 k a0 a1 a2 a3 (!t105))) else (spec_GainsOf.j0 k a0 a1 a2 a3 true))) else (spec_GainsOf.j0 k a0 a1 a2 a3 true))) else (spec_GainsOf.j0 k a0 a1 a2 a3 true))
def spec_GainsOf.T7:Bool×List (List Nat×List Nat):=(true,[([],[]),([0],[0]),([],[]),([],[]),([2,3],[2,3]),([],[]),([],[]),([5,6],[5,6]),([],[]),([7,8],[7,8]),([9],[9]),([],[]),([10,11],[10,11]),([4,12],[4,12]),([13],[13]),([1,14],[1,14]),([0,1,2,3,4,5,6,7,8,9,10,11,12,13,14,15],[]),([16,15,15,0,1,2,3,4,5,6,7,8,9,10,11,12,13,14,15],[15,16])])
def spec_GainsOf.B7:List Nat:=[0,1,0,0,12,0,0,96,0,480,992,0,4064,8188,16380,32767,65535,131071]
theorem spec_GainsOf.tab7:rtab .any (opsOf Try.f55 7)=spec_GainsOf.T7:=by kernel_rfl
theorem spec_GainsOf.bits7:waitsOk spec_GainsOf.T7.2 spec_GainsOf.B7=true:=by kernel_rfl
set_option maxHeartbeats 8000000 in
set_option maxRecDepth 100000 in
theorem spec_GainsOf.calls (k:Nat) (a0:Int) (a1:Int) (a2:Int) (a3:Int) (r1:List Int) (r2:Bool) (w:World) (h:spec_GainsOf.f k a0 a1 a2 a3=some (r1,r2)) :
    Calls Try.prog 55 #[.int .i64 a0,.int .i64 a1,.int .i64 a2,.int .i64 a3] w fun e w'=>∃ v0_:Value,e= .returned (.tuple #[.agg #[v0_],.bool r2])∧Kd.R (Kd.int .i64) 3 w' w.heap.size (fun _=>True) v0_ r1∧Below w.heap.size w w':=by
  have hu53:=Try.underlying53;have HB:=aM (Below.refl w.heap.size w);have H:((spec_l1In.f a0 0 100).bind fun t102=>(if t102=true then ((spec_l1In.f a1 0 100).bind fun t103=>(if t103=true then ((spec_l1In.f a2 0 10).bind fun t104=>(if t104=true then ((spec_l1In.f a3 0 10).bind fun t105=>(spec_GainsOf.j0 k a0 a1 a2 a3 (!t105))) else (spec_GainsOf.j0 k a0 a1 a2 a3 true))) else (spec_GainsOf.j0 k a0 a1 a2 a3 true))) else (spec_GainsOf.j0 k a0 a1 a2 a3 true)))=some (r1,r2):=h;clear h;have HC5:=aM H;clear H;go_enter Try.func55,Try.ntmps55
  go_upto_region 1 with (first|((with_reducible refine gate_dst (N:=8) rfl ?_);refine box_event ?hg (N:=8) ?hd (cs:=#[.slice none 0 0]) (t:=53) ?hr ?_;(case hd=>rfl);(case hg=>rfl);(case hr=>first|(go_simp;done)|(go_simp;rfl));intro gb101 hg w6 hbox hb;have n0_:=aM (Qg (by repeat (first|(with_reducible first|exact HB.out|apply Qc|apply Qa|apply Qb)|exact HB.out)) hb);have n1_:=aM (hbox);have n2_:=aM ((by rw [hg];exact (Qk (by repeat (first|(with_reducible first|exact HB.out|apply Qc|apply Qa|apply Qb)|exact HB.out))):w.heap.size≤gb101));have n3_:=aM ((by rw [hg];exact (Qk (by repeat (first|(with_reducible first|exact HB.out|apply Qc|apply Qa|apply Qb)|exact HB.out))):w.heap.size≤gb101));clear HB;have HB:=n0_;have BK101:=n1_;have GW101:=n2_;have GE101:=n3_;clear n0_ n1_ n2_ n3_;clear hb hbox hg))
  (try simp only [Act.put,aA,aB,aC])
  go_cut [29] (fun v29 wc=>∃ (kq:Nat) (x29_4:Bool),v29= .bool x29_4∧Aside0 (spec_GainsOf.j0 kq a0 a1 a2 a3 x29_4=some (r1,r2))∧Aside0 (kq≤k)∧Aside0 (wc.heap[gb101]? = some (.cells #[(.slice none 0 0)] 53 (0,0)))∧Aside0 (Below w.heap.size w wc))
  case first=>
   have H:=HC5.out;clear HC5;replace H:=Option.bind_eq_some_iff.mp H;obtain ⟨t102,A70,H⟩:=H;replace H:(if t102=true then ((spec_l1In.f a1 0 100).bind fun t103=>(if t103=true then ((spec_l1In.f a2 0 10).bind fun t104=>(if t104=true then ((spec_l1In.f a3 0 10).bind fun t105=>(spec_GainsOf.j0 k a0 a1 a2 a3 (!t105))) else (spec_GainsOf.j0 k a0 a1 a2 a3 true))) else (spec_GainsOf.j0 k a0 a1 a2 a3 true))) else (spec_GainsOf.j0 k a0 a1 a2 a3 true))=some (r1,r2):=H;have A7:=aM A70;clear A70;by_cases c8:t102=true
   ·subst c8;have H1:((spec_l1In.f a1 0 100).bind fun t103=>(if t103=true then ((spec_l1In.f a2 0 10).bind fun t104=>(if t104=true then ((spec_l1In.f a3 0 10).bind fun t105=>(spec_GainsOf.j0 k a0 a1 a2 a3 (!t105))) else (spec_GainsOf.j0 k a0 a1 a2 a3 true))) else (spec_GainsOf.j0 k a0 a1 a2 a3 true)))=some (r1,r2):=by rw [if_pos rfl] at H;exact H
    clear H;have H:=H1;clear H1;replace H:=Option.bind_eq_some_iff.mp H;obtain ⟨t103,A90,H⟩:=H;replace H:(if t103=true then ((spec_l1In.f a2 0 10).bind fun t104=>(if t104=true then ((spec_l1In.f a3 0 10).bind fun t105=>(spec_GainsOf.j0 k a0 a1 a2 a3 (!t105))) else (spec_GainsOf.j0 k a0 a1 a2 a3 true))) else (spec_GainsOf.j0 k a0 a1 a2 a3 true))=some (r1,r2):=H;have A9:=aM A90;clear A90;by_cases c10:t103=true
    ·subst c10;have H1:((spec_l1In.f a2 0 10).bind fun t104=>(if t104=true then ((spec_l1In.f a3 0 10).bind fun t105=>(spec_GainsOf.j0 k a0 a1 a2 a3 (!t105))) else (spec_GainsOf.j0 k a0 a1 a2 a3 true)))=some (r1,r2):=by rw [if_pos rfl] at H;exact H
     clear H;have H:=H1;clear H1;replace H:=Option.bind_eq_some_iff.mp H;obtain ⟨t104,A110,H⟩:=H;replace H:(if t104=true then ((spec_l1In.f a3 0 10).bind fun t105=>(spec_GainsOf.j0 k a0 a1 a2 a3 (!t105))) else (spec_GainsOf.j0 k a0 a1 a2 a3 true))=some (r1,r2):=H;have A11:=aM A110;clear A110;by_cases c12:t104=true
     ·subst c12;have H1:((spec_l1In.f a3 0 10).bind fun t105=>(spec_GainsOf.j0 k a0 a1 a2 a3 (!t105)))=some (r1,r2):=by rw [if_pos rfl] at H;exact H
      clear H;have H:=H1;clear H1;replace H:=Option.bind_eq_some_iff.mp H;obtain ⟨t105,A130,H⟩:=H;replace H:(spec_GainsOf.j0 k a0 a1 a2 a3 (!t105))=some (r1,r2):=H;have A13:=aM A130;clear A130;have H':=aM H;clear H;go_wp2_with (first|((with_reducible refine Qt (f:=152) rfl ?_);refine goesL_ (some 13) rfl rfl Try.func152 (by kernel_rfl) rfl #[.int .i64 a0,.int .i64 0,.int .i64 100] rfl (by (try simp only [aD,aE,aF]);first|done|rfl|(simp only [aG,aH];rfl)) ?_;(with_reducible refine (spec_l1In.calls a0 0 100 true _ A7.out).mono ?_);rintro e w' ⟨rfl,⟨nd,rfl⟩⟩;refine ⟨_,rfl,?_⟩)|(go_at_call 152;(with_reducible refine (spec_l1In.calls a1 0 100 true _ A9.out).mono ?_);rintro e w' ⟨rfl,⟨nd,rfl⟩⟩)|(go_at_call 152;(with_reducible refine (spec_l1In.calls a2 0 10 true _ A11.out).mono ?_);rintro e w' ⟨rfl,⟨nd,rfl⟩⟩)|(go_at_call 152;(with_reducible refine (spec_l1In.calls a3 0 10 t105 _ A13.out).mono ?_);rintro e w' ⟨rfl,⟨nd,rfl⟩⟩))
      go_meet
      case rel=>exact ⟨_,(!t105),(by first|rfl|(simp;done)|(simp [*];done)),H',⟨by first|omega|exact Nat.le_refl _⟩,⟨by (with_reducible repeat (first|apply Qi|apply Qj|apply Qh));exact BK101.out⟩,⟨by repeat (first|(with_reducible first|exact HB.out|apply Qc|apply Qa|apply Qb|refine Qd ?_ GE101.out)|exact HB.out)⟩⟩
     ·replace c12:=Bool.eq_false_iff.mpr c12;subst c12;have H1:(spec_GainsOf.j0 k a0 a1 a2 a3 true)=some (r1,r2):=by rw [if_neg (show ¬ (false=true) by decide)] at H;exact H
      clear H;have H:=H1;clear H1;have H':=aM H;clear H;go_wp2_with (first|((with_reducible refine Qt (f:=152) rfl ?_);refine goesL_ (some 13) rfl rfl Try.func152 (by kernel_rfl) rfl #[.int .i64 a0,.int .i64 0,.int .i64 100] rfl (by (try simp only [aD,aE,aF]);first|done|rfl|(simp only [aG,aH];rfl)) ?_;(with_reducible refine (spec_l1In.calls a0 0 100 true _ A7.out).mono ?_);rintro e w' ⟨rfl,⟨nd,rfl⟩⟩;refine ⟨_,rfl,?_⟩)|(go_at_call 152;(with_reducible refine (spec_l1In.calls a1 0 100 true _ A9.out).mono ?_);rintro e w' ⟨rfl,⟨nd,rfl⟩⟩)|(go_at_call 152;(with_reducible refine (spec_l1In.calls a2 0 10 false _ A11.out).mono ?_);rintro e w' ⟨rfl,⟨nd,rfl⟩⟩))
      go_meet
      case rel=>exact ⟨_,(true),(by first|rfl|(simp;done)|(simp [*];done)),H',⟨by first|omega|exact Nat.le_refl _⟩,⟨by (with_reducible repeat (first|apply Qi|apply Qj|apply Qh));exact BK101.out⟩,⟨by repeat (first|(with_reducible first|exact HB.out|apply Qc|apply Qa|apply Qb|refine Qd ?_ GE101.out)|exact HB.out)⟩⟩
    ·replace c10:=Bool.eq_false_iff.mpr c10;subst c10;have H1:(spec_GainsOf.j0 k a0 a1 a2 a3 true)=some (r1,r2):=by rw [if_neg (show ¬ (false=true) by decide)] at H;exact H
     clear H;have H:=H1;clear H1;have H':=aM H;clear H;go_wp2_with (first|((with_reducible refine Qt (f:=152) rfl ?_);refine goesL_ (some 13) rfl rfl Try.func152 (by kernel_rfl) rfl #[.int .i64 a0,.int .i64 0,.int .i64 100] rfl (by (try simp only [aD,aE,aF]);first|done|rfl|(simp only [aG,aH];rfl)) ?_;(with_reducible refine (spec_l1In.calls a0 0 100 true _ A7.out).mono ?_);rintro e w' ⟨rfl,⟨nd,rfl⟩⟩;refine ⟨_,rfl,?_⟩)|(go_at_call 152;(with_reducible refine (spec_l1In.calls a1 0 100 false _ A9.out).mono ?_);rintro e w' ⟨rfl,⟨nd,rfl⟩⟩))
     go_meet
     case rel=>exact ⟨_,(true),(by first|rfl|(simp;done)|(simp [*];done)),H',⟨by first|omega|exact Nat.le_refl _⟩,⟨by (with_reducible repeat (first|apply Qi|apply Qj|apply Qh));exact BK101.out⟩,⟨by repeat (first|(with_reducible first|exact HB.out|apply Qc|apply Qa|apply Qb|refine Qd ?_ GE101.out)|exact HB.out)⟩⟩
   ·replace c8:=Bool.eq_false_iff.mpr c8;subst c8;have H1:(spec_GainsOf.j0 k a0 a1 a2 a3 true)=some (r1,r2):=by rw [if_neg (show ¬ (false=true) by decide)] at H;exact H
    clear H;have H:=H1;clear H1;have H':=aM H;clear H;go_wp2_with (first|((with_reducible refine Qt (f:=152) rfl ?_);refine goesL_ (some 13) rfl rfl Try.func152 (by kernel_rfl) rfl #[.int .i64 a0,.int .i64 0,.int .i64 100] rfl (by (try simp only [aD,aE,aF]);first|done|rfl|(simp only [aG,aH];rfl)) ?_;(with_reducible refine (spec_l1In.calls a0 0 100 false _ A7.out).mono ?_);rintro e w' ⟨rfl,⟨nd,rfl⟩⟩;refine ⟨_,rfl,?_⟩))
    go_meet
    case rel=>exact ⟨_,(true),(by first|rfl|(simp;done)|(simp [*];done)),H',⟨by first|omega|exact Nat.le_refl _⟩,⟨by (with_reducible repeat (first|apply Qi|apply Qj|apply Qh));exact BK101.out⟩,⟨by repeat (first|(with_reducible first|exact HB.out|apply Qc|apply Qa|apply Qb|refine Qd ?_ GE101.out)|exact HB.out)⟩⟩
  case rest=>
   clear HC5;(try clear c1);(try clear p2);(try clear c5);(try clear c8);(try clear c10);(try clear c12);obtain ⟨kq,x29_4,rfl,HA,HJ4,BK101,HB⟩:=hcut
   cases kq with
   |zero=>exact absurd HA.out (by simp [spec_GainsOf.j0])
   |succ kj4=>
    have H:=HA.out;clear HA;simp only [spec_GainsOf.j0] at H;by_cases c14:x29_4=true
    ·subst c14;have H1:(some (([]:List Int),false))=some (r1,r2):=by rw [if_pos rfl] at H;exact H
     clear H;have H:=H1;clear H1;simp only [Option.some.injEq,Prod.mk.injEq] at H;obtain ⟨rfl,rfl⟩:=H;have hcz15_0:wc.cell? ⟨gb101,0,none⟩=some (.slice none 0 0):=(Qu BK101.out 0).trans rfl;have hfz15_0:=Qs BK101.out 0;go_wp2;refine bodyPost_ret (results_ct rfl _ _ gb101 53 #[.slice none 0 0] (0,0) _ rfl (by (with_reducible repeat (first|apply Qi|apply Qj|apply Qh));refine blk_put (cs:=#[.slice none 0 0]) ?_ 0 _ rfl;(with_reducible repeat (first|apply Qi|apply Qj|apply Qh));exact BK101.out) Try.underlying53 rfl (by kernel_rfl)) rfl ?_;exact ⟨_,by first|rfl|(simp [errW_none,errW_some] <;> rfl)|(simp [*,errW_none,errW_some] <;> rfl),by first|exact Kd.R_nil _ _ _ _ _|exact Kd.N_nil _ _ _ _ _|exact Kd.V_nil _ _ _ _ _|exact Kd.Q_nil _ _ _ _ _|exact Kd.S_nil _ _ _ _ _,by repeat (first|(with_reducible first|exact HB.out|apply Qc|apply Qa|apply Qb|refine Qd ?_ GE101.out)|exact HB.out)⟩
    ·replace c14:=Bool.eq_false_iff.mpr c14;subst c14;have H1:(spec_GainsOf.l0 kj4 a0 a1 a2 a3 1 ([]:List Int))=some (r1,r2):=by rw [if_neg (show ¬ (false=true) by decide)] at H;exact H
     clear H;have H:=H1;clear H1;have H':=aM H;clear H;go_wp2_with (first|((with_reducible refine gate_dst (N:=10) rfl ?_);refine box_event ?hg (N:=10) ?hd (cs:=#[.slice none 0 0]) (t:=53) ?hr ?_;(case hd=>rfl);(case hg=>rfl);(case hr=>first|(go_simp;done)|(go_simp;rfl));intro gb106 hg w16 hbox hb;have n0_:=aM (Qz (g:=gb101) (o:= .cells #[.slice none 0 0] 53 (0,0)) (by (with_reducible repeat (first|apply Qi|apply Qj|apply Qh));exact BK101.out) hb);have n1_:=aM (Qg (by repeat (first|(with_reducible first|exact HB.out|apply Qc|apply Qa|apply Qb|refine Qd ?_ GE101.out)|exact HB.out)) hb);have n2_:=aM (hbox);have n3_:=aM ((by rw [hg];exact (Qk (by repeat (first|(with_reducible first|exact HB.out|apply Qc|apply Qa|apply Qb|refine Qd ?_ GE101.out)|exact HB.out))):w.heap.size≤gb106));have n4_:=aM ((by rw [hg];exact (Qk (by repeat (first|(with_reducible first|exact HB.out|apply Qc|apply Qa|apply Qb|refine Qd ?_ GE101.out)|exact HB.out))):w.heap.size≤gb106));have n5_:=aM ((by rw [hg];exact Nat.ne_of_lt (blk_lt (g:=gb101) (o:= .cells #[.slice none 0 0] 53 (0,0)) (by (with_reducible repeat (first|apply Qi|apply Qj|apply Qh));exact BK101.out)):gb101≠gb106));have n6_:=aM ((by rw [hg];exact Nat.ne_of_gt (blk_lt (g:=gb101) (o:= .cells #[.slice none 0 0] 53 (0,0)) (by (with_reducible repeat (first|apply Qi|apply Qj|apply Qh));exact BK101.out)):gb106≠gb101));clear BK101;clear HB;have BK101:=n0_;have HB:=n1_;have BK106:=n2_;have GW106:=n3_;have GE106:=n4_;have NB101_106:=n5_;have NB106_101:=n6_;clear n0_ n1_ n2_ n3_ n4_ n5_ n6_;clear hb hbox hg))
     go_loopg [11] kj4 (fun kq v11 w'=>∃ (x11_2:Int) (x107000_2:List Int) (u107000:Value),v11= .int .i64 x11_2∧Aside0 (spec_GainsOf.l0 kq a0 a1 a2 a3 x11_2 x107000_2=some (r1,r2))∧Aside0 (kq≤kj4)∧Aside0 (Kd.R (Kd.int .i64) 3 w' w.heap.size (fun _=>True) u107000 x107000_2)∧Aside0 (w'.heap[gb101]? = some (.cells #[(.slice none 0 0)] 53 (0,0)))∧Aside0 (w'.heap[gb106]? = some (.cells #[u107000] 53 (0,0)))∧Aside0 (Below w.heap.size w w'))
     case atStart=>exact ⟨(1),(([]:List Int)),(.slice none 0 0),(by first|rfl|(simp;done)|(simp [*];done)),H',⟨Nat.le_refl _⟩,⟨by first|exact Kd.R_nil _ _ _ _ _|exact Kd.N_nil _ _ _ _ _|exact Kd.V_nil _ _ _ _ _|exact Kd.Q_nil _ _ _ _ _|exact Kd.S_nil _ _ _ _ _⟩,⟨by (with_reducible repeat (first|apply Qi|apply Qj|apply Qh));exact BK101.out⟩,⟨by (with_reducible repeat (first|apply Qi|apply Qj|apply Qh));exact BK106.out⟩,⟨by repeat (first|(with_reducible first|exact HB.out|apply Qc|apply Qa|apply Qb|refine Qd ?_ GE101.out|refine Qd ?_ GE106.out)|exact HB.out)⟩⟩
     case round=>
      clear H';(try clear c1);(try clear p2);(try clear c5);(try clear c8);(try clear c10);(try clear c12);(try clear c14);(try clear c15);(try clear hcz15_0);(try clear hfz15_0);(try clear p2);obtain ⟨x11_2,x107000_2,u107000,rfl,HA,HK2,HO_107000,BK101,BK106,HB⟩:=hrel
      cases gk with
      |zero=>exact absurd HA.out (by simp [spec_GainsOf.l0])
      |succ k2=>
       have H:=HA.out;clear HA;simp only [spec_GainsOf.l0] at H;by_cases c17:x11_2≤6
       ·rw [if_pos c17] at H;have c17b0:decide (x11_2≤6)=true:=decide_eq_true c17;clear c17;by_cases c18:x11_2=0
        ·rw [if_pos c18] at H;exact absurd H (by simp)
        ·rw [if_neg c18] at H;have c18b0:(x11_2 == 0)=false:=beq_eq_false_iff_ne.mpr c18;have c18b1:(x11_2 != 0)=true:=bne_iff_ne.mpr c18;by_cases c19:x107000_2.length<17592186044416
         ·rw [if_pos c19] at H;have LMc19:=aM c19;clear c19;obtain ⟨y107,hy107⟩:∃ y_:List Int,y_=(x107000_2 ++ [wrap64 ((wrap64 (a2 * a0)) - (wrap64 (Int.tdiv (wrap64 ((wrap64 ((wrap64 (a3 * a1))+x11_2)) - 1)) x11_2)))]):=⟨_,rfl⟩;replace H:(spec_GainsOf.l0 k2 a0 a1 a2 a3 (wrap64 (x11_2+1)) y107)=some (r1,r2):=by first|(rw [hy107];with_reducible exact H)|(have H2_:=(Option.bind_some _ _).symm.trans H;rw [hy107];with_reducible exact H2_)|(have H2_:=(Option.bind_some _ _).symm.trans H;with_reducible exact H2_)|with_reducible exact H|(rw [hy107];exact H)|exact H
          have Ny107:=aM hy107;clear hy107;have H':=aM H;clear H
          try go_wp2
          have n0_:=aM (Kd.R_drew HO_107000.out);have n1_:=aM (Qj BK101.out);have n2_:=aM (Qj BK106.out);have n3_:=aM (Qb HB.out);clear HO_107000;clear BK101;clear BK106;clear HB;have HO_107000:=n0_;have BK101:=n1_;have BK106:=n2_;have HB:=n3_;clear n0_ n1_ n2_ n3_;refine start_ (n:=18) (S:=fun w'=>w'.cell? ⟨gb106,0,none⟩=some (u107000)) (ds:=[17]) #[false,false,false,false,false,false,false,false,false,false,false,false,false,false,false,false,false,false] (by kernel_rfl) rfl rfl ((Qu BK106.out 0).trans rfl) (fun hHeld=>?_);refine with_tabW spec_GainsOf.tab7 spec_GainsOf.bits7 (fun HT_ HW_=>?_)
          generalize wr.drew=w20 at HO_107000 BK101 BK106 HB hHeld ⊢
          refine pure_ (i:=0) (N:=some 35) (v:=?_) (a':=?_) #[true,false,false,false,false,false,false,false,false,false,false,false,false,false,false,false,false,false] rfl rfl (any_of HT_.out (by kernel_rfl)) (fun _ _ _ h=>h) (Or.inl ⟨by rfl,?_⟩) ?_ ?_
          rotate_left
          ·intro w'
           go_simp
           with_reducible rfl
          rotate_left
          ·simp only [Act.put,aA,aB,aC,i64_w,i32_w]
           rfl
          refine pure_ (i:=2) (N:=some 37) (v:=?_) (a':=?_) #[true,false,true,false,false,false,false,false,false,false,false,false,false,false,false,false,false,false] rfl rfl (any_of HT_.out (by kernel_rfl)) (fun _ _ _ h=>h) (Or.inl ⟨by rfl,?_⟩) ?_ ?_
          rotate_left
          ·intro w'
           go_simp
           with_reducible rfl
          rotate_left
          ·simp only [Act.put,aA,aB,aC,i64_w,i32_w]
           rfl
          refine pure_ (i:=3) (N:=some 38) (v:=?_) (a':=?_) #[true,false,true,true,false,false,false,false,false,false,false,false,false,false,false,false,false,false] rfl rfl (any_of HT_.out (by kernel_rfl)) (fun _ _ _ h=>h) (Or.inl ⟨by rfl,?_⟩) ?_ ?_
          rotate_left
          ·intro w'
           go_simp
           with_reducible rfl
          rotate_left
          ·simp only [Act.put,aA,aB,aC,i64_w,i32_w]
           rfl
          refine pure_ (i:=4) (N:=some 39) (v:=?_) (a':=?_) #[true,false,true,true,true,false,false,false,false,false,false,false,false,false,false,false,false,false] rfl rfl (any_of HT_.out (by kernel_rfl)) (fun _ _ _ h=>h) (Or.inl ⟨by rfl,?_⟩) ?_ ?_
          rotate_left
          ·intro w'
           go_simp
           with_reducible rfl
          rotate_left
          ·simp only [Act.put,aA,aB,aC,i64_w,i32_w]
           rfl
          refine pure_ (i:=5) (N:=some 40) (v:=?_) (a':=?_) #[true,false,true,true,true,true,false,false,false,false,false,false,false,false,false,false,false,false] rfl rfl (any_of HT_.out (by kernel_rfl)) (fun _ _ _ h=>h) (Or.inl ⟨by rfl,?_⟩) ?_ ?_
          rotate_left
          ·intro w'
           go_simp
           with_reducible rfl
          rotate_left
          ·simp only [Act.put,aA,aB,aC,i64_w,i32_w]
           rfl
          refine pure_ (i:=6) (N:=some 41) (v:=?_) (a':=?_) #[true,false,true,true,true,true,true,false,false,false,false,false,false,false,false,false,false,false] rfl rfl (any_of HT_.out (by kernel_rfl)) (fun _ _ _ h=>h) (Or.inl ⟨by rfl,?_⟩) ?_ ?_
          rotate_left
          ·intro w'
           go_simp
           with_reducible rfl
          rotate_left
          ·simp only [Act.put,aA,aB,aC,i64_w,i32_w]
           rfl
          refine pure_ (i:=7) (N:=some 42) (v:=?_) (a':=?_) #[true,false,true,true,true,true,true,true,false,false,false,false,false,false,false,false,false,false] rfl rfl (any_of HT_.out (by kernel_rfl)) (fun _ _ _ h=>h) (Or.inl ⟨by rfl,?_⟩) ?_ ?_
          rotate_left
          ·intro w'
           go_simp
           with_reducible rfl
          rotate_left
          ·simp only [Act.put,aA,aB,aC,i64_w,i32_w]
           rfl
          refine pure_ (i:=8) (N:=some 43) (v:=?_) (a':=?_) #[true,false,true,true,true,true,true,true,true,false,false,false,false,false,false,false,false,false] rfl rfl (any_of HT_.out (by kernel_rfl)) (fun _ _ _ h=>h) (Or.inl ⟨by rfl,?_⟩) ?_ ?_
          rotate_left
          ·intro w'
           go_simp
           with_reducible rfl
          rotate_left
          ·simp only [Act.put,aA,aB,aC,i64_w,i32_w]
           rfl
          refine pure_ (i:=9) (N:=some 44) (v:=?_) (a':=?_) #[true,false,true,true,true,true,true,true,true,true,false,false,false,false,false,false,false,false] rfl rfl (any_of HT_.out (by kernel_rfl)) (fun _ _ _ h=>h) (Or.inl ⟨by rfl,?_⟩) ?_ ?_
          rotate_left
          ·intro w'
           go_simp
           with_reducible rfl
          rotate_left
          ·simp only [Act.put,aA,aB,aC,i64_w,i32_w]
           rfl
          refine pure_ (i:=10) (N:=some 45) (v:=?_) (a':=?_) #[true,false,true,true,true,true,true,true,true,true,true,false,false,false,false,false,false,false] rfl rfl (any_of HT_.out (by kernel_rfl)) (fun _ _ _ h=>h) (Or.inl ⟨by rfl,?_⟩) ?_ ?_
          rotate_left
          ·intro w'
           go_simp
           with_reducible rfl
          rotate_left
          ·simp only [Act.put,aA,aB,aC,i64_w,i32_w]
           rfl
          refine pure_ (i:=11) (N:=some 46) (v:=?_) (a':=?_) #[true,false,true,true,true,true,true,true,true,true,true,true,false,false,false,false,false,false] rfl rfl (any_of HT_.out (by kernel_rfl)) (fun _ _ _ h=>h) (Or.inl ⟨by rfl,?_⟩) ?_ ?_
          rotate_left
          ·intro w'
           go_simp
           with_reducible rfl
          rotate_left
          ·simp only [Act.put,aA,aB,aC,i64_w,i32_w]
           rfl
          refine pure_ (i:=12) (N:=some 47) (v:=?_) (a':=?_) #[true,false,true,true,true,true,true,true,true,true,true,true,true,false,false,false,false,false] rfl rfl (any_of HT_.out (by kernel_rfl)) (fun _ _ _ h=>h) (Or.inl ⟨by rfl,?_⟩) ?_ ?_
          rotate_left
          ·intro w'
           go_simp
           with_reducible rfl
          rotate_left
          ·simp only [Act.put,aA,aB,aC,i64_w,i32_w]
           rfl
          refine pure_ (i:=13) (N:=some 48) (v:=?_) (a':=?_) #[true,false,true,true,true,true,true,true,true,true,true,true,true,true,false,false,false,false] rfl rfl (any_of HT_.out (by kernel_rfl)) (fun _ _ _ h=>h) (Or.inl ⟨by rfl,?_⟩) ?_ ?_
          rotate_left
          ·intro w'
           go_simp
           with_reducible rfl
          rotate_left
          ·simp only [Act.put,aA,aB,aC,i64_w,i32_w]
           rfl
          refine take_ (i:=1) (N:=some 36) (v:=?_) (a':=?_) #[true,true,true,true,true,true,true,true,true,true,true,true,true,true,false,false,false,false] rfl rfl (take_ofW HT_.out HW_.out (by kernel_rfl)) (fun _ _ _ h=>h) (Or.inl ⟨by rfl,?_⟩) hHeld ?_ ?_
          rotate_left
          ·intro w' s0
           go_simp
           with_reducible rfl
          rotate_left
          ·simp only [Act.put,aA,aB,aC,i64_w,i32_w]
           rfl
          refine one_ (i:=14) (N:=some 49) #[true,true,true,true,true,true,true,true,true,true,true,true,true,true,true,false,false,false] rfl rfl (one_of HT_.out (by kernel_rfl)) (by decide) (fun K hK=>?_);refine value_ (w1:=?_) (v:=?_) (by rfl) rfl ?_ ?_
          rotate_left 2
          ·go_simp
           constructor
           ·rfl
           ·rfl
          refine hK.out _ _ ((Qu (Qh BK106.out _) 0).trans rfl) (fun hHeld=>?_);clear hK K;refine norm_ (a':=?_) ?_ ?_
          rotate_left
          ·show Act.put _ (some 49) _=_
           simp only [Act.put,aA,aB,aC,i64_w,i32_w]
           rfl
          refine one_ (i:=15) (N:=some 50) #[true,true,true,true,true,true,true,true,true,true,true,true,true,true,true,true,false,false] rfl rfl (one_of HT_.out (by kernel_rfl)) (by decide) (fun K hK=>?_);refine Kd.R_append_step (Kd.int .i64) (w0:=w) w.heap.size (by rfl) (.tmp 36) (.tmp 49) 23 3 (.int .i64 0) 8 rfl Try.underlying23 info3 rfl (by decide) (by omega) u107000 x107000_2 (wrap64 ((wrap64 (a2 * a0)) - (wrap64 (Int.tdiv (wrap64 ((wrap64 ((wrap64 (a3 * a1))+x11_2)) - 1)) x11_2)))) [.int .i64 (wrap64 ((wrap64 (a2 * a0)) - (wrap64 (Int.tdiv (wrap64 ((wrap64 ((wrap64 (a3 * a1))+x11_2)) - 1)) x11_2))))] (fun _=>True) (fun _=>False) rfl rfl ?aP (fun _ hk=>hk.elim) ?aF ?aO ?aB ?aS ?aL ?_
          (case aP=>exact rfl)
          (case aB=>exact (by repeat (first|(with_reducible first|exact HB.out|apply Qc|apply Qa|apply Qb|refine Qd ?_ GE101.out|refine Qd ?_ GE106.out)|exact HB.out)))
          (case aF=>exact (fun _ _=>trivial))
          (case aO=>exact (by (with_reducible repeat (first|apply Kd.Qf|apply Kd.Qe|apply Kd.R_drew));exact HO_107000.out))
          (case aS=>exact (Qk (by repeat (first|(with_reducible first|exact HB.out|apply Qc|apply Qa|apply Qb|refine Qd ?_ GE101.out|refine Qd ?_ GE106.out)|exact HB.out))))
          (case aL=>have:=LMc19.out;omega)
          intro v108 w21 ho hb hg hat;rw [←Ny107.out] at ho;have n0_:=aM (blk_grown (g:=gb101) (o:= .cells #[.slice none 0 0] 53 (0,0)) (by (with_reducible repeat (first|apply Qi|apply Qj|apply Qh));exact BK101.out) hg (Kd.R_ne HO_107000.out BK101.out (by decide)));have n1_:=aM (blk_grown (g:=gb106) (o:= .cells #[u107000] 53 (0,0)) (by (with_reducible repeat (first|apply Qi|apply Qj|apply Qh));exact BK106.out) hg (Kd.R_ne HO_107000.out BK106.out (by decide)));have n2_:=aM (hb);have n3_:=aM (ho);clear BK101;clear BK106;clear HB;clear HO_107000;have BK101:=n0_;have BK106:=n1_;have HB:=n2_;have HO109:=n3_;clear n0_ n1_ n2_ n3_;clear ho hb hg hat;obtain ⟨Ao22,co22,eo22⟩:=Kd.R_slice HO109.out
          (first|subst eo22|(injection eo22 with f1_ f2_ f3_;have f4_:=f1_.symm;have f5_:=f3_.symm;clear f1_ f2_ f3_;subst f4_;subst f5_))
          refine hK.out _ _ ((Qu BK106.out 0).trans rfl) (fun hHeld=>?_);clear hK K;refine norm_ (a':=?_) ?_ ?_
          rotate_left
          ·show Act.put _ (some 50) _=_
           simp only [Act.put,aA,aB,aC,i64_w,i32_w]
           rfl
          refine pure_ (i:=16) (N:=some 51) (v:=?_) (a':=?_) #[true,true,true,true,true,true,true,true,true,true,true,true,true,true,true,true,true,false] rfl rfl (any_of HT_.out (by kernel_rfl)) (fun _ _ _ h=>h) (Or.inl ⟨by rfl,?_⟩) ?_ ?_
          rotate_left
          ·intro w'
           go_simp
           with_reducible rfl
          rotate_left
          ·simp only [Act.put,aA,aB,aC,i64_w,i32_w]
           rfl
          refine last_ (i:=17) (N:=none) #[true,true,true,true,true,true,true,true,true,true,true,true,true,true,true,true,true,true] rfl rfl (one_of HT_.out (by kernel_rfl)) (by decide) (fun K hK=>?_);have hs23:w21.cell? ⟨gb106,0,none⟩=some (u107000):=(Qu BK106.out 0).trans rfl;have hfs23:=Qs BK106.out 0;have hns23_0:=NB101_106.out;have hms23_0:=NB106_101.out;refine skip_ (w1:=?_) (by rfl) rfl ?_ ?_
          rotate_left
          ·go_simp
           rfl
          refine hK.out _ _ ?_;clear hK K;refine done_ (done_of HT_.out (by kernel_rfl)) ?_
          try go_wp2
          go_roundg k2
          case measure=>have:=HJ4.out;have:=HK2.out;omega
          case rel=>exact ⟨(wrap64 (x11_2+1)),(y107),(.slice Ao22 y107.length co22),(by first|rfl|(simp;done)|(simp [*];done)),H',⟨by have:=HJ4.out;have:=HK2.out;omega⟩,⟨by (with_reducible repeat (first|apply Kd.Qf|apply Kd.Qe|apply Kd.R_drew));exact Kd.R_mono (Kd.R_far (p:=⟨gb106,0,none⟩) (Kd.Qv HO109.out BK106.out (by decide)) (fun _ hk=>hk.2) (.slice Ao22 y107.length co22)) (fun _ hk=>trivial)⟩,⟨by (with_reducible repeat (first|apply Qi|apply Qj|apply Qh));refine blk_far ?_ NB101_106.out _;(with_reducible repeat (first|apply Qi|apply Qj|apply Qh));exact BK101.out⟩,⟨by (with_reducible repeat (first|apply Qi|apply Qj|apply Qh));refine blk_put (cs:=#[u107000]) ?_ 0 _ rfl;(with_reducible repeat (first|apply Qi|apply Qj|apply Qh));exact BK106.out⟩,⟨by repeat (first|(with_reducible first|exact HB.out|apply Qc|apply Qa|apply Qb|refine Qd ?_ GE101.out|refine Qd ?_ GE106.out)|exact HB.out)⟩⟩
         ·rw [if_neg c19] at H;exact absurd H (by simp)
       ·rw [if_neg c17] at H;have c17b0:decide (x11_2≤6)=false:=decide_eq_false c17;clear c17;obtain ⟨y110,hy110⟩:∃ y_:List (S53),y_=(([(⟨x107000_2⟩:S53)]:List (S53))):=⟨_,rfl⟩;replace H:((spec_GoodOffers.f k2 y110).bind fun t113=>(if t113=true then (some (x107000_2,true)) else (some (([]:List Int),false))))=some (r1,r2):=by first|(rw [hy110];with_reducible exact H)|(have H2_:=(Option.bind_some _ _).symm.trans H;rw [hy110];with_reducible exact H2_)|(have H2_:=(Option.bind_some _ _).symm.trans H;with_reducible exact H2_)|with_reducible exact H|(rw [hy110];exact H)|exact H
        have Ny110:=aM hy110;clear hy110;replace H:=Option.bind_eq_some_iff.mp H;obtain ⟨t113,A240,H⟩:=H;replace H:(if t113=true then (some (x107000_2,true)) else (some (([]:List Int),false)))=some (r1,r2):=H;have A24:=aM A240;clear A240;by_cases c25:t113=true
        ·subst c25;have H1:(some (x107000_2,true))=some (r1,r2):=by rw [if_pos rfl] at H;exact H
         clear H;have H:=H1;clear H1;simp only [Option.some.injEq,Prod.mk.injEq] at H;obtain ⟨rfl,rfl⟩:=H;have hnb26:=NB106_101.out;have hnc26:=NB101_106.out;have hcz27_0:wr.cell? ⟨gb106,0,none⟩=some (u107000):=(Qu BK106.out 0).trans rfl;have hfz27_0:=Qs BK106.out 0;obtain ⟨Ao28,co28,eo28⟩:=Kd.R_slice HO_107000.out;subst eo28;go_wp2_with (first|((with_reducible refine gate_dst (N:=53) rfl ?_);refine Kd.N_lit k53 _ 53 ?hg (N':=53) ?hd (xs:=([(⟨x107000_2⟩:S53)]:List (S53))) (inner:=[.slice Ao28 x107000_2.length co28]) (ok:=(fun k_=>k_≠gb101∧k_≠gb106)) (okp:=(fun k_=>k_≠gb101∧k_≠gb106)) ?hr ?hp (fun _ hk=>hk) ((show ∀ k_,wr.heap.size≤k_→(fun k_=>k_≠gb101∧k_≠gb106) k_ from fun k_ hk=>⟨Kd.freshB (g:=gb101) (o:= .cells #[.slice none 0 0] 53 (0,0)) (by (with_reducible repeat (first|apply Qi|apply Qj|apply Qh));exact BK101.out) k_ hk,Kd.freshB (g:=gb106) (o:= .cells #[.slice Ao28 x107000_2.length co28] 53 (0,0)) (by (with_reducible repeat (first|apply Qi|apply Qj|apply Qh));exact BK106.out) k_ hk⟩) _ (Nat.le_refl _)) (Below.refl _ _) (Nat.le_refl _) (by simp) ?_;(case hd=>rfl);(case hg=>rfl);(case hr=>first|(go_simp;done)|(go_simp;rfl));(case hp=>exact (Reps.one (show Kd.FK k53 _ _ (⟨x107000_2⟩:S53) [.slice Ao28 x107000_2.length co28] from (k53_mkF _ _ (⟨x107000_2⟩:S53) (Kd.Qn (Kd.R_mono (ok':=(fun k_=>k_≠gb101∧k_≠gb106)) (Kd.Qv (Kd.Qv (HO_107000.out) BK101.out (by decide)) BK106.out (by decide)) (fun k_ hk=>⟨hk.1.2,hk.2⟩))).2.1 (Kd.R_F (Kd.R_mono (ok':=(fun k_=>k_≠gb101∧k_≠gb106)) (Kd.Qv (Kd.Qv (HO_107000.out) BK101.out (by decide)) BK106.out (by decide)) (fun k_ hk=>⟨hk.1.2,hk.2⟩))))) (Reps.none _ _)));intro v111 w29 ho30 hb hg_ hnew_;clear hg_ hnew_;(first|rw [←Ny110.out] at ho30|(simp only [Int.reduceToNat] at ho30;rw [←Ny110.out] at ho30));have n0_:=aM (Kd.Qr (by (with_reducible repeat (first|apply Kd.Qf|apply Kd.Qe|apply Kd.R_drew));exact HO_107000.out) hb);have n1_:=aM (Kd.N_lower ho30 (Qk (by repeat (first|(with_reducible first|exact HB.out|apply Qc|apply Qa|apply Qb|refine Qd ?_ GE101.out|refine Qd ?_ GE106.out)|exact HB.out))));have n2_:=aM (Qz (g:=gb101) (o:= .cells #[.slice none 0 0] 53 (0,0)) (by (with_reducible repeat (first|apply Qi|apply Qj|apply Qh));exact BK101.out) hb);have n3_:=aM (Qz (g:=gb106) (o:= .cells #[.slice Ao28 x107000_2.length co28] 53 (0,0)) (by (with_reducible repeat (first|apply Qi|apply Qj|apply Qh));exact BK106.out) hb);have n4_:=aM (Qg (by repeat (first|(with_reducible first|exact HB.out|apply Qc|apply Qa|apply Qb|refine Qd ?_ GE101.out|refine Qd ?_ GE106.out)|exact HB.out)) hb);clear HO_107000;clear BK101;clear BK106;clear HB;have HO_107000:=n0_;have HO112:=n1_;have BK101:=n2_;have BK106:=n3_;have HB:=n4_;clear n0_ n1_ n2_ n3_ n4_;clear hb ho30;obtain ⟨Ao31,co31,eo31⟩:=Kd.N_slice HO112.out;subst eo31)|((with_reducible refine Qt (f:=49) rfl ?_);refine goesL_ (some 54) rfl rfl Try.func49 (by kernel_rfl) rfl #[.slice Ao31 y110.length co31] rfl (by (try simp only [aD,aE,aF]);first|done|rfl|(simp only [aG,aH];rfl)) ?_;(with_reducible refine (spec_GoodOffers.calls k2 _ _ y110 true _ ?side1 ?side2 A24.out).mono ?_);(case side1=>repeat (first|exact (Kd.Qq HO112.out).2.2|(with_reducible refine Kd.Ql ?_ _)|(with_reducible refine Kd.Qm ?_ _)|(with_reducible refine Kd.C_drew ?_)));(case side2=>exact (Kd.Qq HO112.out).2.1);rintro e w32 ⟨rfl,hb⟩;refine ⟨_,rfl,?_⟩;have n0_:=aM (Kd.Qr (by (with_reducible repeat (first|apply Kd.Qf|apply Kd.Qe|apply Kd.R_drew));exact HO_107000.out) hb);have n1_:=aM (Kd.Qw (by (with_reducible repeat (first|apply Kd.Qp|apply Kd.Qo|apply Kd.N_drew));exact HO112.out) hb);have n2_:=aM (Qz (g:=gb101) (o:= .cells #[.slice none 0 0] 53 (0,0)) (by (with_reducible repeat (first|apply Qi|apply Qj|apply Qh));exact BK101.out) hb);have n3_:=aM (Qz (g:=gb106) (o:= .cells #[.slice Ao28 x107000_2.length co28] 53 (0,0)) (by (with_reducible repeat (first|apply Qi|apply Qj|apply Qh));exact BK106.out) hb);have n4_:=aM (Qg (by repeat (first|(with_reducible first|exact HB.out|apply Qc|apply Qa|apply Qb|refine Qd ?_ GE101.out|refine Qd ?_ GE106.out)|exact HB.out)) hb);clear HO_107000;clear HO112;clear BK101;clear BK106;clear HB;have HO_107000:=n0_;have HO112:=n1_;have BK101:=n2_;have BK106:=n3_;have HB:=n4_;clear n0_ n1_ n2_ n3_ n4_;(try clear hb);(try clear hb2);(try clear hk);(try clear hi);have hcz33_0:w32.cell? ⟨gb106,0,none⟩=some (.slice Ao28 x107000_2.length co28):=(Qu BK106.out 0).trans rfl;have hfz33_0:=Qs BK106.out 0;have hcz34_0:w32.cell? ⟨gb101,0,none⟩=some (.slice none 0 0):=(Qu BK101.out 0).trans rfl;have hfz34_0:=Qs BK101.out 0))
         refine bodyPost_ret (results_ct rfl _ _ gb101 53 #[.slice Ao28 x107000_2.length co28] (0,0) _ rfl (by (with_reducible repeat (first|apply Qi|apply Qj|apply Qh));refine blk_put (cs:=#[.slice none 0 0]) ?_ 0 _ rfl;(with_reducible repeat (first|apply Qi|apply Qj|apply Qh));exact BK101.out) Try.underlying53 rfl (by kernel_rfl)) rfl ?_;exact ⟨_,by first|rfl|(simp [errW_none,errW_some] <;> rfl)|(simp [*,errW_none,errW_some] <;> rfl),by (with_reducible repeat (first|apply Kd.Qf|apply Kd.Qe|apply Kd.R_drew));exact Kd.R_mono (Kd.R_far (p:=⟨gb101,0,none⟩) (Kd.Qv HO_107000.out BK101.out (by decide)) (fun _ hk=>hk.2) (.slice Ao28 x107000_2.length co28)) (fun _ hk=>trivial),by repeat (first|(with_reducible first|exact HB.out|apply Qc|apply Qa|apply Qb|refine Qd ?_ GE101.out|refine Qd ?_ GE106.out)|exact HB.out)⟩
        ·replace c25:=Bool.eq_false_iff.mpr c25;subst c25;have H1:(some (([]:List Int),false))=some (r1,r2):=by rw [if_neg (show ¬ (false=true) by decide)] at H;exact H
         clear H;have H:=H1;clear H1;simp only [Option.some.injEq,Prod.mk.injEq] at H;obtain ⟨rfl,rfl⟩:=H;have hnb35:=NB106_101.out;have hnc35:=NB101_106.out;have hcz36_0:wr.cell? ⟨gb106,0,none⟩=some (u107000):=(Qu BK106.out 0).trans rfl;have hfz36_0:=Qs BK106.out 0;obtain ⟨Ao37,co37,eo37⟩:=Kd.R_slice HO_107000.out;subst eo37;go_wp2_with (first|((with_reducible refine gate_dst (N:=53) rfl ?_);refine Kd.N_lit k53 _ 53 ?hg (N':=53) ?hd (xs:=([(⟨x107000_2⟩:S53)]:List (S53))) (inner:=[.slice Ao37 x107000_2.length co37]) (ok:=(fun k_=>k_≠gb101∧k_≠gb106)) (okp:=(fun k_=>k_≠gb101∧k_≠gb106)) ?hr ?hp (fun _ hk=>hk) ((show ∀ k_,wr.heap.size≤k_→(fun k_=>k_≠gb101∧k_≠gb106) k_ from fun k_ hk=>⟨Kd.freshB (g:=gb101) (o:= .cells #[.slice none 0 0] 53 (0,0)) (by (with_reducible repeat (first|apply Qi|apply Qj|apply Qh));exact BK101.out) k_ hk,Kd.freshB (g:=gb106) (o:= .cells #[.slice Ao37 x107000_2.length co37] 53 (0,0)) (by (with_reducible repeat (first|apply Qi|apply Qj|apply Qh));exact BK106.out) k_ hk⟩) _ (Nat.le_refl _)) (Below.refl _ _) (Nat.le_refl _) (by simp) ?_;(case hd=>rfl);(case hg=>rfl);(case hr=>first|(go_simp;done)|(go_simp;rfl));(case hp=>exact (Reps.one (show Kd.FK k53 _ _ (⟨x107000_2⟩:S53) [.slice Ao37 x107000_2.length co37] from (k53_mkF _ _ (⟨x107000_2⟩:S53) (Kd.Qn (Kd.R_mono (ok':=(fun k_=>k_≠gb101∧k_≠gb106)) (Kd.Qv (Kd.Qv (HO_107000.out) BK101.out (by decide)) BK106.out (by decide)) (fun k_ hk=>⟨hk.1.2,hk.2⟩))).2.1 (Kd.R_F (Kd.R_mono (ok':=(fun k_=>k_≠gb101∧k_≠gb106)) (Kd.Qv (Kd.Qv (HO_107000.out) BK101.out (by decide)) BK106.out (by decide)) (fun k_ hk=>⟨hk.1.2,hk.2⟩))))) (Reps.none _ _)));intro v111 w38 ho39 hb hg_ hnew_;clear hg_ hnew_;(first|rw [←Ny110.out] at ho39|(simp only [Int.reduceToNat] at ho39;rw [←Ny110.out] at ho39));have n0_:=aM (Kd.Qr (by (with_reducible repeat (first|apply Kd.Qf|apply Kd.Qe|apply Kd.R_drew));exact HO_107000.out) hb);have n1_:=aM (Kd.N_lower ho39 (Qk (by repeat (first|(with_reducible first|exact HB.out|apply Qc|apply Qa|apply Qb|refine Qd ?_ GE101.out|refine Qd ?_ GE106.out)|exact HB.out))));have n2_:=aM (Qz (g:=gb101) (o:= .cells #[.slice none 0 0] 53 (0,0)) (by (with_reducible repeat (first|apply Qi|apply Qj|apply Qh));exact BK101.out) hb);have n3_:=aM (Qz (g:=gb106) (o:= .cells #[.slice Ao37 x107000_2.length co37] 53 (0,0)) (by (with_reducible repeat (first|apply Qi|apply Qj|apply Qh));exact BK106.out) hb);have n4_:=aM (Qg (by repeat (first|(with_reducible first|exact HB.out|apply Qc|apply Qa|apply Qb|refine Qd ?_ GE101.out|refine Qd ?_ GE106.out)|exact HB.out)) hb);clear HO_107000;clear BK101;clear BK106;clear HB;have HO_107000:=n0_;have HO112:=n1_;have BK101:=n2_;have BK106:=n3_;have HB:=n4_;clear n0_ n1_ n2_ n3_ n4_;clear hb ho39;obtain ⟨Ao40,co40,eo40⟩:=Kd.N_slice HO112.out;subst eo40)|((with_reducible refine Qt (f:=49) rfl ?_);refine goesL_ (some 54) rfl rfl Try.func49 (by kernel_rfl) rfl #[.slice Ao40 y110.length co40] rfl (by (try simp only [aD,aE,aF]);first|done|rfl|(simp only [aG,aH];rfl)) ?_;(with_reducible refine (spec_GoodOffers.calls k2 _ _ y110 false _ ?side1 ?side2 A24.out).mono ?_);(case side1=>repeat (first|exact (Kd.Qq HO112.out).2.2|(with_reducible refine Kd.Ql ?_ _)|(with_reducible refine Kd.Qm ?_ _)|(with_reducible refine Kd.C_drew ?_)));(case side2=>exact (Kd.Qq HO112.out).2.1);rintro e w41 ⟨rfl,hb⟩;refine ⟨_,rfl,?_⟩;have n0_:=aM (Kd.Qr (by (with_reducible repeat (first|apply Kd.Qf|apply Kd.Qe|apply Kd.R_drew));exact HO_107000.out) hb);have n1_:=aM (Kd.Qw (by (with_reducible repeat (first|apply Kd.Qp|apply Kd.Qo|apply Kd.N_drew));exact HO112.out) hb);have n2_:=aM (Qz (g:=gb101) (o:= .cells #[.slice none 0 0] 53 (0,0)) (by (with_reducible repeat (first|apply Qi|apply Qj|apply Qh));exact BK101.out) hb);have n3_:=aM (Qz (g:=gb106) (o:= .cells #[.slice Ao37 x107000_2.length co37] 53 (0,0)) (by (with_reducible repeat (first|apply Qi|apply Qj|apply Qh));exact BK106.out) hb);have n4_:=aM (Qg (by repeat (first|(with_reducible first|exact HB.out|apply Qc|apply Qa|apply Qb|refine Qd ?_ GE101.out|refine Qd ?_ GE106.out)|exact HB.out)) hb);clear HO_107000;clear HO112;clear BK101;clear BK106;clear HB;have HO_107000:=n0_;have HO112:=n1_;have BK101:=n2_;have BK106:=n3_;have HB:=n4_;clear n0_ n1_ n2_ n3_ n4_;(try clear hb);(try clear hb2);(try clear hk);(try clear hi);have hcz42_0:w41.cell? ⟨gb101,0,none⟩=some (.slice none 0 0):=(Qu BK101.out 0).trans rfl;have hfz42_0:=Qs BK101.out 0))
         refine bodyPost_ret (results_ct rfl _ _ gb101 53 #[.slice none 0 0] (0,0) _ rfl (by (with_reducible repeat (first|apply Qi|apply Qj|apply Qh));refine blk_put (cs:=#[.slice none 0 0]) ?_ 0 _ rfl;(with_reducible repeat (first|apply Qi|apply Qj|apply Qh));exact BK101.out) Try.underlying53 rfl (by kernel_rfl)) rfl ?_;exact ⟨_,by first|rfl|(simp [errW_none,errW_some] <;> rfl)|(simp [*,errW_none,errW_some] <;> rfl),by first|exact Kd.R_nil _ _ _ _ _|exact Kd.N_nil _ _ _ _ _|exact Kd.V_nil _ _ _ _ _|exact Kd.Q_nil _ _ _ _ _|exact Kd.S_nil _ _ _ _ _,by repeat (first|(with_reducible first|exact HB.out|apply Qc|apply Qa|apply Qb|refine Qd ?_ GE101.out|refine Qd ?_ GE106.out)|exact HB.out)⟩

def impl_within.f (a0:Int) (a1:Int) (a2:Int):Option (Bool):=if a0 ≥ a1 then (some (decide (a0≤a2))) else (some false)
set_option maxHeartbeats 8000000 in
set_option maxRecDepth 100000 in
theorem impl_within.calls (a0:Int) (a1:Int) (a2:Int) (r:Bool) (w:World) (h:impl_within.f a0 a1 a2=some r) :
    Calls Try.prog 113 #[.int .i64 a0,.int .i64 a1,.int .i64 a2] w fun e w'=>e= .returned (.bool r)∧Drawn0 w w':=by
  have H:(if a0 ≥ a1 then (some (decide (a0≤a2))) else (some false))=some r:=h;clear h;by_cases c4:a0 ≥ a1
  ·rw [if_pos c4] at H;have c4b0:decide (a1≤a0)=true:=decide_eq_true c4;clear c4;obtain rfl:=Option.some.inj H;go_enter Try.func113,Try.ntmps113;go_wp2
   go_ret
   exact ⟨by first|rfl|(simp;done)|(simp [*];done),by repeat (first|exact Drawn0.refl _|apply Drawn0.step)⟩
  ·rw [if_neg c4] at H;have c4b0:decide (a1≤a0)=false:=decide_eq_false c4;clear c4;obtain rfl:=Option.some.inj H;go_enter Try.func113,Try.ntmps113;go_wp2
   go_ret
   exact ⟨by first|rfl|(simp;done)|(simp [*];done),by repeat (first|exact Drawn0.refl _|apply Drawn0.step)⟩

def impl_allWithin_1.f (a0:Int) (a1_0_0:Int) (a2_0_0:Int):Option (Bool):=(impl_within.f a0 a1_0_0 a2_0_0).bind fun t101=>(some (!t101))
set_option maxHeartbeats 8000000 in
set_option maxRecDepth 100000 in
theorem impl_allWithin_1.calls (a0:Int) (g1_0:Nat) (a1_0_0:Int) (g2_0:Nat) (a2_0_0:Int) (r:Bool) (w:World) (hg1_0:w.heap[g1_0]? = some (.cells #[.int .i64 a1_0_0] 3 (0,0))) (hg2_0:w.heap[g2_0]? = some (.cells #[.int .i64 a2_0_0] 3 (0,0))) (h:impl_allWithin_1.f a0 a1_0_0 a2_0_0=some r) :
    Calls Try.prog 209 #[.int .i64 a0,.pointer (some ⟨g1_0,0,none⟩),.pointer (some ⟨g2_0,0,none⟩)] w fun e w'=>e= .returned (.bool r)∧Drawn0 w w':=by
  have BK46:=aM hg1_0;clear hg1_0;have BK52:=aM hg2_0;clear hg2_0;have H:((impl_within.f a0 a1_0_0 a2_0_0).bind fun t101=>(some (!t101)))=some r:=h;clear h;replace H:=Option.bind_eq_some_iff.mp H;obtain ⟨t101,A40,H⟩:=H;replace H:(some (!t101))=some r:=H;have A4:=aM A40;clear A40;obtain rfl:=Option.some.inj H;have hcz5_0:w.cell? ⟨g1_0,0,none⟩=some (.int .i64 a1_0_0):=(Qu BK46.out 0).trans rfl;have hfz5_0:=Qs BK46.out 0;have hcz6_0:w.cell? ⟨g2_0,0,none⟩=some (.int .i64 a2_0_0):=(Qu BK52.out 0).trans rfl;have hfz6_0:=Qs BK52.out 0;go_enter Try.func209,Try.ntmps209;go_wp2_with (first|((with_reducible refine Qt (f:=113) rfl ?_);refine goesL_ (some 8) rfl rfl Try.func113 (by kernel_rfl) rfl #[.int .i64 a0,.int .i64 a1_0_0,.int .i64 a2_0_0] rfl (by (try simp only [aD,aE,aF]);first|done|rfl|(simp only [aG,aH];rfl)) ?_;(with_reducible refine (impl_within.calls a0 a1_0_0 a2_0_0 t101 _ A4.out).mono ?_);rintro e w' ⟨rfl,⟨nd,rfl⟩⟩;refine ⟨_,rfl,?_⟩))
  go_ret
  exact ⟨by first|rfl|(simp;done)|(simp [*];done),by repeat (first|exact Drawn0.refl _|apply Drawn0.step)⟩

def sl3_IndexFunc.l0:Nat→List Int→Int→Int→Int→Int→Option (Int)
  |0,_,_,_,_,_=>none
  |k+1,x0,x7,x8,x47000,x48000=>if x8<x7 then (if 0≤x8 then (if x8<(x0.length:Int) then ((impl_allWithin_1.f (rd x0 x8) x47000 x48000).bind fun t102=>(if t102=true then (some x8) else (sl3_IndexFunc.l0 k x0 x7 (wrap64 (x8+1)) x47000 x48000))) else (none)) else (none)) else (some (-1))
def sl3_IndexFunc.f (k:Nat) (l0:List Int) (a1_0_0:Int) (a1_1_0:Int):Option (Int):=sl3_IndexFunc.l0 k l0 (l0.length:Int) 0 a1_0_0 a1_1_0
set_option maxHeartbeats 8000000 in
set_option maxRecDepth 100000 in
theorem sl3_IndexFunc.calls (k:Nat) (A0:Option Addr) (c0:Nat) (l0:List Int) (g1_0:Nat) (a1_0_0:Int) (g1_1:Nat) (a1_1_0:Int) (r:Int) (w:World) (hr0:Kd.C (Kd.int .i64) w A0 l0.length l0) (hc0:l0.length≤c0) (hg1_0:w.heap[g1_0]? = some (.cells #[.int .i64 a1_0_0] 3 (0,0))) (hg1_1:w.heap[g1_1]? = some (.cells #[.int .i64 a1_1_0] 3 (0,0))) (h:sl3_IndexFunc.f k l0 a1_0_0 a1_1_0=some r) :
    Calls Try.prog 235 #[.slice A0 l0.length c0,.func (.func 209) #[] #[.pointer (some ⟨g1_0,0,none⟩),.pointer (some ⟨g1_1,0,none⟩)]] w fun e w'=>e= .returned (.int .i64 r)∧Below w.heap.size w w':=by
  have HR0:=aM hr0;have HC0:=aM hc0;clear hr0 hc0;have BK46:=aM hg1_0;clear hg1_0;have BK47:=aM hg1_1;clear hg1_1;have HB:=aM (Below.refl w.heap.size w);have H:(sl3_IndexFunc.l0 k l0 (l0.length:Int) 0 a1_0_0 a1_1_0)=some r:=h;clear h;have H':=aM H;clear H;go_enter Try.func235,Try.ntmps235;go_wp2;go_loopg [8] k (fun kq v8 w'=>∃ (x8_1:Int),v8= .int .i64 x8_1∧Aside0 (sl3_IndexFunc.l0 kq l0 (l0.length:Int) x8_1 a1_0_0 a1_1_0=some r)∧Aside0 (kq≤k)∧Aside0 (w'.heap[g1_0]? = some (.cells #[.int .i64 a1_0_0] 3 (0,0)))∧Aside0 (w'.heap[g1_1]? = some (.cells #[.int .i64 a1_1_0] 3 (0,0)))∧Aside0 (Below w.heap.size w w'))
  case atStart=>exact ⟨(0),(by first|rfl|(simp;done)|(simp [*];done)),H',⟨Nat.le_refl _⟩,⟨by (with_reducible repeat (first|apply Qi|apply Qj|apply Qh));exact BK46.out⟩,⟨by (with_reducible repeat (first|apply Qi|apply Qj|apply Qh));exact BK47.out⟩,⟨by repeat (first|(with_reducible first|exact HB.out|apply Qc|apply Qa|apply Qb|refine Qd ?_ GE46.out|refine Qd ?_ GE47.out)|exact HB.out)⟩⟩
  case round=>
   clear H';(try clear p2);obtain ⟨x8_1,rfl,HA,HK1,BK46,BK47,HB⟩:=hrel
   cases gk with
   |zero=>exact absurd HA.out (by simp [sl3_IndexFunc.l0])
   |succ k1=>
    have H:=HA.out;clear HA;simp only [sl3_IndexFunc.l0] at H;by_cases c3:x8_1<(l0.length:Int)
    ·rw [if_pos c3] at H;have c3b0:decide (x8_1<(l0.length:Int))=true:=decide_eq_true c3;clear c3;by_cases c4:0≤x8_1
     ·rw [if_pos c4] at H;have c4b0:decide (0≤x8_1)=true:=decide_eq_true c4;clear c4;by_cases c5:x8_1<(l0.length:Int)
      ·rw [if_pos c5] at H;have c5b0:decide (x8_1<(l0.length:Int))=true:=decide_eq_true c5;clear c5;replace H:=Option.bind_eq_some_iff.mp H;obtain ⟨t102,A60,H⟩:=H;replace H:(if t102=true then (some x8_1) else (sl3_IndexFunc.l0 k1 l0 (l0.length:Int) (wrap64 (x8_1+1)) a1_0_0 a1_1_0))=some r:=H;have A6:=aM A60;clear A60;by_cases c7:t102=true
       ·subst c7;have H1:(some x8_1)=some r:=by rw [if_pos rfl] at H;exact H
        clear H;have H:=H1;clear H1;obtain rfl:=Option.some.inj H;have p101:0≤(x8_1:Int):=of_decide_eq_true (by first|(with_reducible assumption)|assumption);have q101:x8_1<(l0.length:Int):=of_decide_eq_true (by first|(with_reducible assumption)|assumption);obtain ⟨ad101,e101,hx101_0⟩:=Kd.at_int HR0.out x8_1 p101 q101
        cases e101
        replace hx101_0:=(HB.out.cell (aI w _ hx101_0)).trans hx101_0;replace p101:=eq_true p101;replace q101:=eq_true q101;go_wp2_with (first|(go_at_call 209;(with_reducible refine (impl_allWithin_1.calls (rd l0 x8_1) g1_0 a1_0_0 g1_1 a1_1_0 true _ ?side1 ?side2 A6.out).mono ?_);(case side1=>exact (by (with_reducible repeat (first|apply Qi|apply Qj|apply Qh));exact BK46.out));(case side2=>exact (by (with_reducible repeat (first|apply Qi|apply Qj|apply Qh));exact BK47.out));rintro e w' ⟨rfl,⟨nd,rfl⟩⟩))
        go_ret
        exact ⟨by first|rfl|(simp [errW_none,errW_some] <;> rfl)|(simp [*,errW_none,errW_some] <;> rfl),by repeat (first|(with_reducible first|exact HB.out|apply Qc|apply Qa|apply Qb|refine Qd ?_ GE46.out|refine Qd ?_ GE47.out)|exact HB.out)⟩
       ·replace c7:=Bool.eq_false_iff.mpr c7;subst c7;have H1:(sl3_IndexFunc.l0 k1 l0 (l0.length:Int) (wrap64 (x8_1+1)) a1_0_0 a1_1_0)=some r:=by rw [if_neg (show ¬ (false=true) by decide)] at H;exact H
        clear H;have H:=H1;clear H1;have H':=aM H;clear H;have p101:0≤(x8_1:Int):=of_decide_eq_true (by first|(with_reducible assumption)|assumption);have q101:x8_1<(l0.length:Int):=of_decide_eq_true (by first|(with_reducible assumption)|assumption);obtain ⟨ad101,e101,hx101_0⟩:=Kd.at_int HR0.out x8_1 p101 q101
        cases e101
        replace hx101_0:=(HB.out.cell (aI w _ hx101_0)).trans hx101_0;replace p101:=eq_true p101;replace q101:=eq_true q101;go_wp2_with (first|(go_at_call 209;(with_reducible refine (impl_allWithin_1.calls (rd l0 x8_1) g1_0 a1_0_0 g1_1 a1_1_0 false _ ?side1 ?side2 A6.out).mono ?_);(case side1=>exact (by (with_reducible repeat (first|apply Qi|apply Qj|apply Qh));exact BK46.out));(case side2=>exact (by (with_reducible repeat (first|apply Qi|apply Qj|apply Qh));exact BK47.out));rintro e w' ⟨rfl,⟨nd,rfl⟩⟩))
        go_roundg k1
        case measure=>have:=HK1.out;omega
        case rel=>exact ⟨(wrap64 (x8_1+1)),(by first|rfl|(simp;done)|(simp [*];done)),H',⟨by have:=HK1.out;omega⟩,⟨by (with_reducible repeat (first|apply Qi|apply Qj|apply Qh));exact BK46.out⟩,⟨by (with_reducible repeat (first|apply Qi|apply Qj|apply Qh));exact BK47.out⟩,⟨by repeat (first|(with_reducible first|exact HB.out|apply Qc|apply Qa|apply Qb|refine Qd ?_ GE46.out|refine Qd ?_ GE47.out)|exact HB.out)⟩⟩
      ·rw [if_neg c5] at H;exact absurd H (by simp)
     ·rw [if_neg c4] at H;exact absurd H (by simp)
    ·rw [if_neg c3] at H;have c3b0:decide (x8_1<(l0.length:Int))=false:=decide_eq_false c3;clear c3;obtain rfl:=Option.some.inj H;go_wp2
     go_ret
     exact ⟨by first|rfl|(simp [errW_none,errW_some] <;> rfl)|(simp [*,errW_none,errW_some] <;> rfl),by repeat (first|(with_reducible first|exact HB.out|apply Qc|apply Qa|apply Qb|refine Qd ?_ GE46.out|refine Qd ?_ GE47.out)|exact HB.out)⟩

def sl1_ContainsFunc.f (k:Nat) (l0:List Int) (a1_0_0:Int) (a1_1_0:Int):Option (Bool):=(sl3_IndexFunc.f k l0 a1_0_0 a1_1_0).bind fun t101=>(some (decide (t101 ≥ 0)))
set_option maxHeartbeats 8000000 in
set_option maxRecDepth 100000 in
theorem sl1_ContainsFunc.calls (k:Nat) (A0:Option Addr) (c0:Nat) (l0:List Int) (g1_0:Nat) (a1_0_0:Int) (g1_1:Nat) (a1_1_0:Int) (r:Bool) (w:World) (hr0:Kd.C (Kd.int .i64) w A0 l0.length l0) (hc0:l0.length≤c0) (hg1_0:w.heap[g1_0]? = some (.cells #[.int .i64 a1_0_0] 3 (0,0))) (hg1_1:w.heap[g1_1]? = some (.cells #[.int .i64 a1_1_0] 3 (0,0))) (h:sl1_ContainsFunc.f k l0 a1_0_0 a1_1_0=some r) :
    Calls Try.prog 208 #[.slice A0 l0.length c0,.func (.func 209) #[] #[.pointer (some ⟨g1_0,0,none⟩),.pointer (some ⟨g1_1,0,none⟩)]] w fun e w'=>e= .returned (.bool r)∧Below w.heap.size w w':=by
  have HR0:=aM hr0;have HC0:=aM hc0;clear hr0 hc0;have BK46:=aM hg1_0;clear hg1_0;have BK47:=aM hg1_1;clear hg1_1;have HB:=aM (Below.refl w.heap.size w);have H:((sl3_IndexFunc.f k l0 a1_0_0 a1_1_0).bind fun t101=>(some (decide (t101 ≥ 0))))=some r:=h;clear h;replace H:=Option.bind_eq_some_iff.mp H;obtain ⟨t101,A30,H⟩:=H;replace H:(some (decide (t101 ≥ 0)))=some r:=H;have A3:=aM A30;clear A30;obtain rfl:=Option.some.inj H;go_enter Try.func208,Try.ntmps208;go_wp2_with (first|((with_reducible refine Qt (f:=235) rfl ?_);refine goesL_ (some 7) rfl rfl Try.func235 (by kernel_rfl) rfl #[.slice A0 l0.length c0,.func (.func 209) #[] #[.pointer (some ⟨g1_0,0,none⟩),.pointer (some ⟨g1_1,0,none⟩)]] rfl (by (try simp only [aD,aE,aF]);first|done|rfl|(simp only [aG,aH];rfl)) ?_;(with_reducible refine (sl3_IndexFunc.calls k _ _ l0 g1_0 a1_0_0 g1_1 a1_1_0 t101 _ ?side1 ?side2 ?side3 ?side4 A3.out).mono ?_);(case side1=>repeat (first|exact HR0.out|(with_reducible refine Kd.Ql ?_ _)|(with_reducible refine Kd.Qm ?_ _)|(with_reducible refine Kd.C_drew ?_)));(case side2=>exact HC0.out);(case side3=>exact (by (with_reducible repeat (first|apply Qi|apply Qj|apply Qh));exact BK46.out));(case side4=>exact (by (with_reducible repeat (first|apply Qi|apply Qj|apply Qh));exact BK47.out));rintro e w4 ⟨rfl,hb⟩;refine ⟨_,rfl,?_⟩;have n0_:=aM (Qz (g:=g1_0) (o:= .cells #[.int .i64 a1_0_0] 3 (0,0)) (by (with_reducible repeat (first|apply Qi|apply Qj|apply Qh));exact BK46.out) hb);have n1_:=aM (Qz (g:=g1_1) (o:= .cells #[.int .i64 a1_1_0] 3 (0,0)) (by (with_reducible repeat (first|apply Qi|apply Qj|apply Qh));exact BK47.out) hb);have n2_:=aM (Qg (by repeat (first|(with_reducible first|exact HB.out|apply Qc|apply Qa|apply Qb|refine Qd ?_ GE46.out|refine Qd ?_ GE47.out)|exact HB.out)) hb);clear BK46;clear BK47;clear HB;have BK46:=n0_;have BK47:=n1_;have HB:=n2_;clear n0_ n1_ n2_;(try clear hb);(try clear hb2);(try clear hk);(try clear hi)))
  go_ret
  exact ⟨by first|rfl|(simp [errW_none,errW_some] <;> rfl)|(simp [*,errW_none,errW_some] <;> rfl),by repeat (first|(with_reducible first|exact HB.out|apply Qc|apply Qa|apply Qb|refine Qd ?_ GE46.out|refine Qd ?_ GE47.out)|exact HB.out)⟩

def impl_allWithin.f (k:Nat) (l0:List Int) (a1:Int) (a2:Int):Option (Bool):=(sl1_ContainsFunc.f k l0 a1 a2).bind fun t103=>(some (!t103))
set_option maxHeartbeats 8000000 in
set_option maxRecDepth 100000 in
theorem impl_allWithin.calls (k:Nat) (A0:Option Addr) (c0:Nat) (l0:List Int) (a1:Int) (a2:Int) (r:Bool) (w:World) (hr0:Kd.C (Kd.int .i64) w A0 l0.length l0) (hc0:l0.length≤c0) (h:impl_allWithin.f k l0 a1 a2=some r) :
    Calls Try.prog 123 #[.slice A0 l0.length c0,.int .i64 a1,.int .i64 a2] w fun e w'=>e= .returned (.bool r)∧Below w.heap.size w w':=by
  have hmf:∀ (fn:Fn) (first cap:Array Value) (w:World),(Instr.makeFunc fn first cap).run Try.prog w= .ok (.func fn first cap) w:=fun _ _ _ _=>rfl
  have HR0:=aM hr0;have HC0:=aM hc0;clear hr0 hc0;have HB:=aM (Below.refl w.heap.size w);have H:((sl1_ContainsFunc.f k l0 a1 a2).bind fun t103=>(some (!t103)))=some r:=h;clear h;replace H:=Option.bind_eq_some_iff.mp H;obtain ⟨t103,A40,H⟩:=H;replace H:(some (!t103))=some r:=H;have A4:=aM A40;clear A40;obtain rfl:=Option.some.inj H;go_enter Try.func123,Try.ntmps123;go_wp2_with (first|((with_reducible refine gate_dst (N:=4) rfl ?_);refine box_event ?hg (N:=4) ?hd (cs:=#[.int .i64 a1]) (t:=3) ?hr ?_;(case hd=>rfl);(case hg=>rfl);(case hr=>first|(go_simp;done)|(go_simp;rfl));intro gb101 hg w5 hbox hb;have n0_:=aM (Qg (by repeat (first|(with_reducible first|exact HB.out|apply Qc|apply Qa|apply Qb)|exact HB.out)) hb);have n1_:=aM (hbox);have n2_:=aM ((by rw [hg];exact (Qk (by repeat (first|(with_reducible first|exact HB.out|apply Qc|apply Qa|apply Qb)|exact HB.out))):w.heap.size≤gb101));have n3_:=aM ((by rw [hg];exact (Qk (by repeat (first|(with_reducible first|exact HB.out|apply Qc|apply Qa|apply Qb)|exact HB.out))):w.heap.size≤gb101));clear HB;have HB:=n0_;have BK101:=n1_;have GW101:=n2_;have GE101:=n3_;clear n0_ n1_ n2_ n3_;clear hb hbox hg)|((with_reducible refine gate_dst (N:=5) rfl ?_);refine box_event ?hg (N:=5) ?hd (cs:=#[.int .i64 a2]) (t:=3) ?hr ?_;(case hd=>rfl);(case hg=>rfl);(case hr=>first|(go_simp;done)|(go_simp;rfl));intro gb102 hg w6 hbox hb;have n0_:=aM (Qz (g:=gb101) (o:= .cells #[.int .i64 a1] 3 (0,0)) (by (with_reducible repeat (first|apply Qi|apply Qj|apply Qh));exact BK101.out) hb);have n1_:=aM (Qg (by repeat (first|(with_reducible first|exact HB.out|apply Qc|apply Qa|apply Qb|refine Qd ?_ GE101.out)|exact HB.out)) hb);have n2_:=aM (hbox);have n3_:=aM ((by rw [hg];exact (Qk (by repeat (first|(with_reducible first|exact HB.out|apply Qc|apply Qa|apply Qb|refine Qd ?_ GE101.out)|exact HB.out))):w.heap.size≤gb102));have n4_:=aM ((by rw [hg];exact (Qk (by repeat (first|(with_reducible first|exact HB.out|apply Qc|apply Qa|apply Qb|refine Qd ?_ GE101.out)|exact HB.out))):w.heap.size≤gb102));have n5_:=aM ((by rw [hg];exact Nat.ne_of_lt (blk_lt (g:=gb101) (o:= .cells #[.int .i64 a1] 3 (0,0)) (by (with_reducible repeat (first|apply Qi|apply Qj|apply Qh));exact BK101.out)):gb101≠gb102));have n6_:=aM ((by rw [hg];exact Nat.ne_of_gt (blk_lt (g:=gb101) (o:= .cells #[.int .i64 a1] 3 (0,0)) (by (with_reducible repeat (first|apply Qi|apply Qj|apply Qh));exact BK101.out)):gb102≠gb101));clear BK101;clear HB;have BK101:=n0_;have HB:=n1_;have BK102:=n2_;have GW102:=n3_;have GE102:=n4_;have NB101_102:=n5_;have NB102_101:=n6_;clear n0_ n1_ n2_ n3_ n4_ n5_ n6_;clear hb hbox hg)|((with_reducible refine Qt (f:=208) rfl ?_);refine goesL_ (some 9) rfl rfl Try.func208 (by kernel_rfl) rfl #[.slice A0 l0.length c0,.func (.func 209) #[] #[.pointer (some ⟨gb101,0,none⟩),.pointer (some ⟨gb102,0,none⟩)]] rfl (by (try simp only [aD,aE,aF]);first|done|rfl|(simp only [aG,aH];rfl)) ?_;(with_reducible refine (sl1_ContainsFunc.calls k _ _ l0 gb101 a1 gb102 a2 t103 _ ?side1 ?side2 ?side3 ?side4 A4.out).mono ?_);(case side1=>repeat (first|exact (Kd.C_below HR0.out HB.out)|(with_reducible refine Kd.Ql ?_ _)|(with_reducible refine Kd.Qm ?_ _)|(with_reducible refine Kd.C_drew ?_)));(case side2=>exact HC0.out);(case side3=>exact (by (with_reducible repeat (first|apply Qi|apply Qj|apply Qh));exact BK101.out));(case side4=>exact (by (with_reducible repeat (first|apply Qi|apply Qj|apply Qh));exact BK102.out));rintro e w7 ⟨rfl,hb⟩;refine ⟨_,rfl,?_⟩;have n0_:=aM (Qz (g:=gb101) (o:= .cells #[.int .i64 a1] 3 (0,0)) (by (with_reducible repeat (first|apply Qi|apply Qj|apply Qh));exact BK101.out) hb);have n1_:=aM (Qz (g:=gb102) (o:= .cells #[.int .i64 a2] 3 (0,0)) (by (with_reducible repeat (first|apply Qi|apply Qj|apply Qh));exact BK102.out) hb);have n2_:=aM (Qg (by repeat (first|(with_reducible first|exact HB.out|apply Qc|apply Qa|apply Qb|refine Qd ?_ GE101.out|refine Qd ?_ GE102.out)|exact HB.out)) hb);clear BK101;clear BK102;clear HB;have BK101:=n0_;have BK102:=n1_;have HB:=n2_;clear n0_ n1_ n2_;(try clear hb);(try clear hb2);(try clear hk);(try clear hi)))
  go_ret
  exact ⟨by first|rfl|(simp [errW_none,errW_some] <;> rfl)|(simp [*,errW_none,errW_some] <;> rfl),by repeat (first|(with_reducible first|exact HB.out|apply Qc|apply Qa|apply Qb|refine Qd ?_ GE101.out|refine Qd ?_ GE102.out)|exact HB.out)⟩

def impl_isOffer.f (k:Nat) (l0_0:List Int):Option (Bool):=if (l0_0.length:Int)≤6 then ((impl_allWithin.f k l0_0 (-1000) 1000).bind fun t102=>(some t102)) else (some false)
set_option maxHeartbeats 8000000 in
set_option maxRecDepth 100000 in
theorem impl_isOffer.calls (k:Nat) (A0_0:Option Addr) (c0_0:Nat) (l0_0:List Int) (r:Bool) (w:World) (hr0_0:Kd.C (Kd.int .i64) w A0_0 l0_0.length l0_0) (hc0_0:l0_0.length≤c0_0) (h:impl_isOffer.f k l0_0=some r) :
    Calls Try.prog 151 #[.agg #[.slice A0_0 l0_0.length c0_0]] w fun e w'=>e= .returned (.bool r)∧Below w.heap.size w w':=by
  have hu53:=Try.underlying53;have HR0_0:=aM hr0_0;have HC0_0:=aM hc0_0;clear hr0_0 hc0_0;have HB:=aM (Below.refl w.heap.size w);have H:(if (l0_0.length:Int)≤6 then ((impl_allWithin.f k l0_0 (-1000) 1000).bind fun t102=>(some t102)) else (some false))=some r:=h;clear h;by_cases c2:(l0_0.length:Int)≤6
  ·rw [if_pos c2] at H;have c2b0:decide ((l0_0.length:Int)≤6)=true:=decide_eq_true c2;have c2b1:decide (l0_0.length≤6)=true:=decide_eq_true (by omega);clear c2;replace H:=Option.bind_eq_some_iff.mp H;obtain ⟨t102,A30,H⟩:=H;replace H:(some t102)=some r:=H;have A3:=aM A30;clear A30;obtain rfl:=Option.some.inj H;go_enter Try.func151,Try.ntmps151;go_wp2_with (first|((with_reducible refine gate_dst (N:=1) rfl ?_);refine box_event ?hg (N:=1) ?hd (cs:=#[.slice A0_0 l0_0.length c0_0]) (t:=53) ?hr ?_;(case hd=>rfl);(case hg=>rfl);(case hr=>first|(go_simp;done)|(go_simp;rfl));intro gb101 hg w4 hbox hb;have n0_:=aM (Qg (by repeat (first|(with_reducible first|exact HB.out|apply Qc|apply Qa|apply Qb)|exact HB.out)) hb);have n1_:=aM (hbox);have n2_:=aM ((by rw [hg];exact (Qk (by repeat (first|(with_reducible first|exact HB.out|apply Qc|apply Qa|apply Qb)|exact HB.out))):w.heap.size≤gb101));have n3_:=aM ((by rw [hg];exact (Qk (by repeat (first|(with_reducible first|exact HB.out|apply Qc|apply Qa|apply Qb)|exact HB.out))):w.heap.size≤gb101));clear HB;have HB:=n0_;have BK101:=n1_;have GW101:=n2_;have GE101:=n3_;clear n0_ n1_ n2_ n3_;clear hb hbox hg;have hcz5_0:w4.cell? ⟨gb101,0,none⟩=some (.slice A0_0 l0_0.length c0_0):=(Qu BK101.out 0).trans rfl;have hfz5_0:=Qs BK101.out 0)|(go_at_call 123;(with_reducible refine (impl_allWithin.calls k _ _ l0_0 (-1000) 1000 t102 _ ?side1 ?side2 A3.out).mono ?_);(case side1=>repeat (first|exact (Kd.C_below HR0_0.out HB.out)|(with_reducible refine Kd.Ql ?_ _)|(with_reducible refine Kd.Qm ?_ _)|(with_reducible refine Kd.C_drew ?_)));(case side2=>exact HC0_0.out);rintro e w6 ⟨rfl,hb⟩;have n0_:=aM (Qz (g:=gb101) (o:= .cells #[.slice A0_0 l0_0.length c0_0] 53 (0,0)) (by (with_reducible repeat (first|apply Qi|apply Qj|apply Qh));exact BK101.out) hb);have n1_:=aM (Qg (by repeat (first|(with_reducible first|exact HB.out|apply Qc|apply Qa|apply Qb|refine Qd ?_ GE101.out)|exact HB.out)) hb);clear BK101;clear HB;have BK101:=n0_;have HB:=n1_;clear n0_ n1_;(try clear hb);(try clear hb2);(try clear hk);(try clear hi)))
   go_ret
   exact ⟨by first|rfl|(simp [errW_none,errW_some] <;> rfl)|(simp [*,errW_none,errW_some] <;> rfl),by repeat (first|(with_reducible first|exact HB.out|apply Qc|apply Qa|apply Qb|refine Qd ?_ GE101.out)|exact HB.out)⟩
  ·rw [if_neg c2] at H;have c2b0:decide ((l0_0.length:Int)≤6)=false:=decide_eq_false c2;have c2b1:decide (l0_0.length≤6)=false:=decide_eq_false (by omega);clear c2;obtain rfl:=Option.some.inj H;go_enter Try.func151,Try.ntmps151;go_wp2_with (first|((with_reducible refine gate_dst (N:=1) rfl ?_);refine box_event ?hg (N:=1) ?hd (cs:=#[.slice A0_0 l0_0.length c0_0]) (t:=53) ?hr ?_;(case hd=>rfl);(case hg=>rfl);(case hr=>first|(go_simp;done)|(go_simp;rfl));intro gb101 hg w7 hbox hb;have n0_:=aM (Qg (by repeat (first|(with_reducible first|exact HB.out|apply Qc|apply Qa|apply Qb)|exact HB.out)) hb);have n1_:=aM (hbox);have n2_:=aM ((by rw [hg];exact (Qk (by repeat (first|(with_reducible first|exact HB.out|apply Qc|apply Qa|apply Qb)|exact HB.out))):w.heap.size≤gb101));have n3_:=aM ((by rw [hg];exact (Qk (by repeat (first|(with_reducible first|exact HB.out|apply Qc|apply Qa|apply Qb)|exact HB.out))):w.heap.size≤gb101));clear HB;have HB:=n0_;have BK101:=n1_;have GW101:=n2_;have GE101:=n3_;clear n0_ n1_ n2_ n3_;clear hb hbox hg;have hcz8_0:w7.cell? ⟨gb101,0,none⟩=some (.slice A0_0 l0_0.length c0_0):=(Qu BK101.out 0).trans rfl;have hfz8_0:=Qs BK101.out 0))
   go_ret
   exact ⟨by first|rfl|(simp [errW_none,errW_some] <;> rfl)|(simp [*,errW_none,errW_some] <;> rfl),by repeat (first|(with_reducible first|exact HB.out|apply Qc|apply Qa|apply Qb|refine Qd ?_ GE101.out)|exact HB.out)⟩

def impl_GoodOffers_1.f (k:Nat) (l0_0:List Int):Option (Bool):=(impl_isOffer.f k l0_0).bind fun t102=>(some (!t102))
set_option maxHeartbeats 8000000 in
set_option maxRecDepth 100000 in
theorem impl_GoodOffers_1.calls (k:Nat) (A0_0:Option Addr) (c0_0:Nat) (l0_0:List Int) (r:Bool) (w:World) (hr0_0:Kd.C (Kd.int .i64) w A0_0 l0_0.length l0_0) (hc0_0:l0_0.length≤c0_0) (h:impl_GoodOffers_1.f k l0_0=some r) :
    Calls Try.prog 150 #[.agg #[.slice A0_0 l0_0.length c0_0]] w fun e w'=>e= .returned (.bool r)∧Below w.heap.size w w':=by
  have hu53:=Try.underlying53;have HR0_0:=aM hr0_0;have HC0_0:=aM hc0_0;clear hr0_0 hc0_0;have HB:=aM (Below.refl w.heap.size w);have H:((impl_isOffer.f k l0_0).bind fun t102=>(some (!t102)))=some r:=h;clear h;replace H:=Option.bind_eq_some_iff.mp H;obtain ⟨t102,A20,H⟩:=H;replace H:(some (!t102))=some r:=H;have A2:=aM A20;clear A20;obtain rfl:=Option.some.inj H;go_enter Try.func150,Try.ntmps150;go_wp2_with (first|((with_reducible refine gate_dst (N:=1) rfl ?_);refine box_event ?hg (N:=1) ?hd (cs:=#[.slice A0_0 l0_0.length c0_0]) (t:=53) ?hr ?_;(case hd=>rfl);(case hg=>rfl);(case hr=>first|(go_simp;done)|(go_simp;rfl));intro gb101 hg w3 hbox hb;have n0_:=aM (Qg (by repeat (first|(with_reducible first|exact HB.out|apply Qc|apply Qa|apply Qb)|exact HB.out)) hb);have n1_:=aM (hbox);have n2_:=aM ((by rw [hg];exact (Qk (by repeat (first|(with_reducible first|exact HB.out|apply Qc|apply Qa|apply Qb)|exact HB.out))):w.heap.size≤gb101));have n3_:=aM ((by rw [hg];exact (Qk (by repeat (first|(with_reducible first|exact HB.out|apply Qc|apply Qa|apply Qb)|exact HB.out))):w.heap.size≤gb101));clear HB;have HB:=n0_;have BK101:=n1_;have GW101:=n2_;have GE101:=n3_;clear n0_ n1_ n2_ n3_;clear hb hbox hg;have hcz4_0:w3.cell? ⟨gb101,0,none⟩=some (.slice A0_0 l0_0.length c0_0):=(Qu BK101.out 0).trans rfl;have hfz4_0:=Qs BK101.out 0)|((with_reducible refine Qt (f:=151) rfl ?_);refine goesL_ (some 4) rfl rfl Try.func151 (by kernel_rfl) rfl #[.agg #[.slice A0_0 l0_0.length c0_0]] rfl (by (try simp only [aD,aE,aF]);first|done|rfl|(simp only [aG,aH];rfl)) ?_;(with_reducible refine (impl_isOffer.calls k _ _ l0_0 t102 _ ?side1 ?side2 A2.out).mono ?_);(case side1=>repeat (first|exact (Kd.C_below HR0_0.out HB.out)|(with_reducible refine Kd.Ql ?_ _)|(with_reducible refine Kd.Qm ?_ _)|(with_reducible refine Kd.C_drew ?_)));(case side2=>exact HC0_0.out);rintro e w5 ⟨rfl,hb⟩;refine ⟨_,rfl,?_⟩;have n0_:=aM (Qz (g:=gb101) (o:= .cells #[.slice A0_0 l0_0.length c0_0] 53 (0,0)) (by (with_reducible repeat (first|apply Qi|apply Qj|apply Qh));exact BK101.out) hb);have n1_:=aM (Qg (by repeat (first|(with_reducible first|exact HB.out|apply Qc|apply Qa|apply Qb|refine Qd ?_ GE101.out)|exact HB.out)) hb);clear BK101;clear HB;have BK101:=n0_;have HB:=n1_;clear n0_ n1_;(try clear hb);(try clear hb2);(try clear hk);(try clear hi)))
  go_ret
  exact ⟨by first|rfl|(simp [errW_none,errW_some] <;> rfl)|(simp [*,errW_none,errW_some] <;> rfl),by repeat (first|(with_reducible first|exact HB.out|apply Qc|apply Qa|apply Qb|refine Qd ?_ GE101.out)|exact HB.out)⟩

def sl2_IndexFunc.l0:Nat→List (S53)→Int→Int→Option (Int)
  |0,_,_,_=>none
  |k+1,x0,x7,x8=>if x8<x7 then (if 0≤x8 then (if x8<(x0.length:Int) then ((impl_GoodOffers_1.f k ((rd_T53 x0 x8).f0)).bind fun t102=>(if t102=true then (some x8) else (sl2_IndexFunc.l0 k x0 x7 (wrap64 (x8+1))))) else (none)) else (none)) else (some (-1))
def sl2_IndexFunc.f (k:Nat) (l0:List (S53))  :Option (Int):=sl2_IndexFunc.l0 k l0 (l0.length:Int) 0
set_option maxHeartbeats 8000000 in
set_option maxRecDepth 100000 in
theorem sl2_IndexFunc.calls (k:Nat) (A0:Option Addr) (c0:Nat) (l0:List (S53))  (r:Int) (w:World) (hr0:Kd.C k53 w A0 l0.length l0) (hc0:l0.length≤c0) (h:sl2_IndexFunc.f k l0=some r) :
    Calls Try.prog 220 #[.slice A0 l0.length c0,.func (.func 150) #[] #[]] w fun e w'=>e= .returned (.int .i64 r)∧Below w.heap.size w w':=by
  have hu53:=Try.underlying53;have HR0:=aM hr0;have HC0:=aM hc0;clear hr0 hc0;have HB:=aM (Below.refl w.heap.size w);have H:(sl2_IndexFunc.l0 k l0 (l0.length:Int) 0)=some r:=h;clear h;have H':=aM H;clear H;go_enter Try.func220,Try.ntmps220;go_wp2;go_loopg [8] k (fun kq v8 w'=>∃ (x8_1:Int),v8= .int .i64 x8_1∧Aside0 (sl2_IndexFunc.l0 kq l0 (l0.length:Int) x8_1=some r)∧Aside0 (kq≤k)∧Aside0 (Below w.heap.size w w'))
  case atStart=>exact ⟨(0),(by first|rfl|(simp;done)|(simp [*];done)),H',⟨Nat.le_refl _⟩,⟨by repeat (first|(with_reducible first|exact HB.out|apply Qc|apply Qa|apply Qb)|exact HB.out)⟩⟩
  case round=>
   clear H';(try clear p2);obtain ⟨x8_1,rfl,HA,HK1,HB⟩:=hrel
   cases gk with
   |zero=>exact absurd HA.out (by simp [sl2_IndexFunc.l0])
   |succ k1=>
    have H:=HA.out;clear HA;simp only [sl2_IndexFunc.l0] at H;by_cases c3:x8_1<(l0.length:Int)
    ·rw [if_pos c3] at H;have c3b0:decide (x8_1<(l0.length:Int))=true:=decide_eq_true c3;clear c3;by_cases c4:0≤x8_1
     ·rw [if_pos c4] at H;have c4b0:decide (0≤x8_1)=true:=decide_eq_true c4;clear c4;by_cases c5:x8_1<(l0.length:Int)
      ·rw [if_pos c5] at H;have c5b0:decide (x8_1<(l0.length:Int))=true:=decide_eq_true c5;clear c5;replace H:=Option.bind_eq_some_iff.mp H;obtain ⟨t102,A60,H⟩:=H;replace H:(if t102=true then (some x8_1) else (sl2_IndexFunc.l0 k1 l0 (l0.length:Int) (wrap64 (x8_1+1))))=some r:=H;have A6:=aM A60;clear A60;by_cases c7:t102=true
       ·subst c7;have H1:(some x8_1)=some r:=by rw [if_pos rfl] at H;exact H
        clear H;have H:=H1;clear H1;obtain rfl:=Option.some.inj H;have p101:0≤(x8_1:Int):=of_decide_eq_true (by first|(with_reducible assumption)|assumption);have q101:x8_1<(l0.length:Int):=of_decide_eq_true (by first|(with_reducible assumption)|assumption);obtain ⟨ad101,A101_0,c101_0,e101,hx101_0,hl101_0,hi101_0⟩:=at_T53 HR0.out x8_1 p101 q101
        cases e101
        replace hx101_0:=(HB.out.cell (aI w _ hx101_0)).trans hx101_0;have HR101_0:=aM hi101_0;have HC101_0:=aM hl101_0;clear hi101_0 hl101_0;replace p101:=eq_true p101;replace q101:=eq_true q101;go_wp2_with (first|(go_at_call 150;(with_reducible refine (impl_GoodOffers_1.calls k1 _ _ ((rd_T53 l0 x8_1).f0) true _ ?side1 ?side2 A6.out).mono ?_);(case side1=>repeat (first|exact (Kd.C_below HR101_0.out HB.out)|(with_reducible refine Kd.Ql ?_ _)|(with_reducible refine Kd.Qm ?_ _)|(with_reducible refine Kd.C_drew ?_)));(case side2=>exact HC101_0.out);rintro e w8 ⟨rfl,hb⟩;have n0_:=aM (Qg (by repeat (first|(with_reducible first|exact HB.out|apply Qc|apply Qa|apply Qb)|exact HB.out)) hb);clear HB;have HB:=n0_;clear n0_;(try clear hb);(try clear hb2);(try clear hk);(try clear hi)))
        go_ret
        exact ⟨by first|rfl|(simp [errW_none,errW_some] <;> rfl)|(simp [*,errW_none,errW_some] <;> rfl),by repeat (first|(with_reducible first|exact HB.out|apply Qc|apply Qa|apply Qb)|exact HB.out)⟩
       ·replace c7:=Bool.eq_false_iff.mpr c7;subst c7;have H1:(sl2_IndexFunc.l0 k1 l0 (l0.length:Int) (wrap64 (x8_1+1)))=some r:=by rw [if_neg (show ¬ (false=true) by decide)] at H;exact H
        clear H;have H:=H1;clear H1;have H':=aM H;clear H;have p101:0≤(x8_1:Int):=of_decide_eq_true (by first|(with_reducible assumption)|assumption);have q101:x8_1<(l0.length:Int):=of_decide_eq_true (by first|(with_reducible assumption)|assumption);obtain ⟨ad101,A101_0,c101_0,e101,hx101_0,hl101_0,hi101_0⟩:=at_T53 HR0.out x8_1 p101 q101
        cases e101
        replace hx101_0:=(HB.out.cell (aI w _ hx101_0)).trans hx101_0;have HR101_0:=aM hi101_0;have HC101_0:=aM hl101_0;clear hi101_0 hl101_0;replace p101:=eq_true p101;replace q101:=eq_true q101;go_wp2_with (first|(go_at_call 150;(with_reducible refine (impl_GoodOffers_1.calls k1 _ _ ((rd_T53 l0 x8_1).f0) false _ ?side1 ?side2 A6.out).mono ?_);(case side1=>repeat (first|exact (Kd.C_below HR101_0.out HB.out)|(with_reducible refine Kd.Ql ?_ _)|(with_reducible refine Kd.Qm ?_ _)|(with_reducible refine Kd.C_drew ?_)));(case side2=>exact HC101_0.out);rintro e w9 ⟨rfl,hb⟩;have n0_:=aM (Qg (by repeat (first|(with_reducible first|exact HB.out|apply Qc|apply Qa|apply Qb)|exact HB.out)) hb);clear HB;have HB:=n0_;clear n0_;(try clear hb);(try clear hb2);(try clear hk);(try clear hi)))
        go_roundg k1
        case measure=>have:=HK1.out;omega
        case rel=>exact ⟨(wrap64 (x8_1+1)),(by first|rfl|(simp;done)|(simp [*];done)),H',⟨by have:=HK1.out;omega⟩,⟨by repeat (first|(with_reducible first|exact HB.out|apply Qc|apply Qa|apply Qb)|exact HB.out)⟩⟩
      ·rw [if_neg c5] at H;exact absurd H (by simp)
     ·rw [if_neg c4] at H;exact absurd H (by simp)
    ·rw [if_neg c3] at H;have c3b0:decide (x8_1<(l0.length:Int))=false:=decide_eq_false c3;clear c3;obtain rfl:=Option.some.inj H;go_wp2
     go_ret
     exact ⟨by first|rfl|(simp [errW_none,errW_some] <;> rfl)|(simp [*,errW_none,errW_some] <;> rfl),by repeat (first|(with_reducible first|exact HB.out|apply Qc|apply Qa|apply Qb)|exact HB.out)⟩

def sl0_ContainsFunc.f (k:Nat) (l0:List (S53))  :Option (Bool):=(sl2_IndexFunc.f k l0).bind fun t101=>(some (decide (t101 ≥ 0)))
set_option maxHeartbeats 8000000 in
set_option maxRecDepth 100000 in
theorem sl0_ContainsFunc.calls (k:Nat) (A0:Option Addr) (c0:Nat) (l0:List (S53))  (r:Bool) (w:World) (hr0:Kd.C k53 w A0 l0.length l0) (hc0:l0.length≤c0) (h:sl0_ContainsFunc.f k l0=some r) :
    Calls Try.prog 149 #[.slice A0 l0.length c0,.func (.func 150) #[] #[]] w fun e w'=>e= .returned (.bool r)∧Below w.heap.size w w':=by
  have HR0:=aM hr0;have HC0:=aM hc0;clear hr0 hc0;have HB:=aM (Below.refl w.heap.size w);have H:((sl2_IndexFunc.f k l0).bind fun t101=>(some (decide (t101 ≥ 0))))=some r:=h;clear h;replace H:=Option.bind_eq_some_iff.mp H;obtain ⟨t101,A30,H⟩:=H;replace H:(some (decide (t101 ≥ 0)))=some r:=H;have A3:=aM A30;clear A30;obtain rfl:=Option.some.inj H;go_enter Try.func149,Try.ntmps149;go_wp2_with (first|((with_reducible refine Qt (f:=220) rfl ?_);refine goesL_ (some 7) rfl rfl Try.func220 (by kernel_rfl) rfl #[.slice A0 l0.length c0,.func (.func 150) #[] #[]] rfl (by (try simp only [aD,aE,aF]);first|done|rfl|(simp only [aG,aH];rfl)) ?_;(with_reducible refine (sl2_IndexFunc.calls k _ _ l0  t101 _ ?side1 ?side2 A3.out).mono ?_);(case side1=>repeat (first|exact HR0.out|(with_reducible refine Kd.Ql ?_ _)|(with_reducible refine Kd.Qm ?_ _)|(with_reducible refine Kd.C_drew ?_)));(case side2=>exact HC0.out);rintro e w4 ⟨rfl,hb⟩;refine ⟨_,rfl,?_⟩;have n0_:=aM (Qg (by repeat (first|(with_reducible first|exact HB.out|apply Qc|apply Qa|apply Qb)|exact HB.out)) hb);clear HB;have HB:=n0_;clear n0_;(try clear hb);(try clear hb2);(try clear hk);(try clear hi)))
  go_ret
  exact ⟨by first|rfl|(simp [errW_none,errW_some] <;> rfl)|(simp [*,errW_none,errW_some] <;> rfl),by repeat (first|(with_reducible first|exact HB.out|apply Qc|apply Qa|apply Qb)|exact HB.out)⟩

def impl_GoodOffers.f (k:Nat) (l0:List (S53)):Option (Bool):=if (l0.length:Int)≤12 then ((sl0_ContainsFunc.f k l0).bind fun t101=>(some (!t101))) else (some false)
set_option maxHeartbeats 8000000 in
set_option maxRecDepth 100000 in
theorem impl_GoodOffers.calls (k:Nat) (A0:Option Addr) (c0:Nat) (l0:List (S53)) (r:Bool) (w:World) (hr0:Kd.C k53 w A0 l0.length l0) (hc0:l0.length≤c0) (h:impl_GoodOffers.f k l0=some r) :
    Calls Try.prog 48 #[.slice A0 l0.length c0] w fun e w'=>e= .returned (.bool r)∧Below w.heap.size w w':=by
  have HR0:=aM hr0;have HC0:=aM hc0;clear hr0 hc0;have HB:=aM (Below.refl w.heap.size w);have H:(if (l0.length:Int)≤12 then ((sl0_ContainsFunc.f k l0).bind fun t101=>(some (!t101))) else (some false))=some r:=h;clear h;by_cases c2:(l0.length:Int)≤12
  ·rw [if_pos c2] at H;have c2b0:decide ((l0.length:Int)≤12)=true:=decide_eq_true c2;have c2b1:decide (l0.length≤12)=true:=decide_eq_true (by omega);clear c2;replace H:=Option.bind_eq_some_iff.mp H;obtain ⟨t101,A30,H⟩:=H;replace H:(some (!t101))=some r:=H;have A3:=aM A30;clear A30;obtain rfl:=Option.some.inj H;go_enter Try.func48,Try.ntmps48;go_wp2_with (first|(go_at_call 149;(with_reducible refine (sl0_ContainsFunc.calls k _ _ l0  t101 _ ?side1 ?side2 A3.out).mono ?_);(case side1=>repeat (first|exact HR0.out|(with_reducible refine Kd.Ql ?_ _)|(with_reducible refine Kd.Qm ?_ _)|(with_reducible refine Kd.C_drew ?_)));(case side2=>exact HC0.out);rintro e w4 ⟨rfl,hb⟩;have n0_:=aM (Qg (by repeat (first|(with_reducible first|exact HB.out|apply Qc|apply Qa|apply Qb)|exact HB.out)) hb);clear HB;have HB:=n0_;clear n0_;(try clear hb);(try clear hb2);(try clear hk);(try clear hi)))
   go_ret
   exact ⟨by first|rfl|(simp [errW_none,errW_some] <;> rfl)|(simp [*,errW_none,errW_some] <;> rfl),by repeat (first|(with_reducible first|exact HB.out|apply Qc|apply Qa|apply Qb)|exact HB.out)⟩
  ·rw [if_neg c2] at H;have c2b0:decide ((l0.length:Int)≤12)=false:=decide_eq_false c2;have c2b1:decide (l0.length≤12)=false:=decide_eq_false (by omega);clear c2;obtain rfl:=Option.some.inj H;go_enter Try.func48,Try.ntmps48;go_wp2
   go_ret
   exact ⟨by first|rfl|(simp [errW_none,errW_some] <;> rfl)|(simp [*,errW_none,errW_some] <;> rfl),by repeat (first|(with_reducible first|exact HB.out|apply Qc|apply Qa|apply Qb)|exact HB.out)⟩

def impl_isOffered.f (k:Nat) (l0:List (S53)) (a1:Int):Option (Bool):=(impl_GoodOffers.f k l0).bind fun t101=>(if t101=true then ((impl_within.f a1 0 40).bind fun t102=>(some t102)) else (some false))
set_option maxHeartbeats 8000000 in
set_option maxRecDepth 100000 in
theorem impl_isOffered.calls (k:Nat) (A0:Option Addr) (c0:Nat) (l0:List (S53)) (a1:Int) (r:Bool) (w:World) (hr0:Kd.C k53 w A0 l0.length l0) (hc0:l0.length≤c0) (h:impl_isOffered.f k l0 a1=some r) :
    Calls Try.prog 140 #[.slice A0 l0.length c0,.int .i64 a1] w fun e w'=>e= .returned (.bool r)∧Below w.heap.size w w':=by
  have HR0:=aM hr0;have HC0:=aM hc0;clear hr0 hc0;have HB:=aM (Below.refl w.heap.size w);have H:((impl_GoodOffers.f k l0).bind fun t101=>(if t101=true then ((impl_within.f a1 0 40).bind fun t102=>(some t102)) else (some false)))=some r:=h;clear h;replace H:=Option.bind_eq_some_iff.mp H;obtain ⟨t101,A30,H⟩:=H;replace H:(if t101=true then ((impl_within.f a1 0 40).bind fun t102=>(some t102)) else (some false))=some r:=H;have A3:=aM A30;clear A30;by_cases c4:t101=true
  ·subst c4;have H1:((impl_within.f a1 0 40).bind fun t102=>(some t102))=some r:=by rw [if_pos rfl] at H;exact H
   clear H;have H:=H1;clear H1;replace H:=Option.bind_eq_some_iff.mp H;obtain ⟨t102,A50,H⟩:=H;replace H:(some t102)=some r:=H;have A5:=aM A50;clear A50;obtain rfl:=Option.some.inj H;go_enter Try.func140,Try.ntmps140;go_wp2_with (first|((with_reducible refine Qt (f:=48) rfl ?_);refine goesL_ (some 6) rfl rfl Try.func48 (by kernel_rfl) rfl #[.slice A0 l0.length c0] rfl (by (try simp only [aD,aE,aF]);first|done|rfl|(simp only [aG,aH];rfl)) ?_;(with_reducible refine (impl_GoodOffers.calls k _ _ l0 true _ ?side1 ?side2 A3.out).mono ?_);(case side1=>repeat (first|exact HR0.out|(with_reducible refine Kd.Ql ?_ _)|(with_reducible refine Kd.Qm ?_ _)|(with_reducible refine Kd.C_drew ?_)));(case side2=>exact HC0.out);rintro e w6 ⟨rfl,hb⟩;refine ⟨_,rfl,?_⟩;have n0_:=aM (Qg (by repeat (first|(with_reducible first|exact HB.out|apply Qc|apply Qa|apply Qb)|exact HB.out)) hb);clear HB;have HB:=n0_;clear n0_;(try clear hb);(try clear hb2);(try clear hk);(try clear hi))|(go_at_call 113;(with_reducible refine (impl_within.calls a1 0 40 t102 _ A5.out).mono ?_);rintro e w' ⟨rfl,⟨nd,rfl⟩⟩))
   go_ret
   exact ⟨by first|rfl|(simp [errW_none,errW_some] <;> rfl)|(simp [*,errW_none,errW_some] <;> rfl),by repeat (first|(with_reducible first|exact HB.out|apply Qc|apply Qa|apply Qb)|exact HB.out)⟩
  ·replace c4:=Bool.eq_false_iff.mpr c4;subst c4;have H1:(some false)=some r:=by rw [if_neg (show ¬ (false=true) by decide)] at H;exact H
   clear H;have H:=H1;clear H1;obtain rfl:=Option.some.inj H;go_enter Try.func140,Try.ntmps140;go_wp2_with (first|((with_reducible refine Qt (f:=48) rfl ?_);refine goesL_ (some 6) rfl rfl Try.func48 (by kernel_rfl) rfl #[.slice A0 l0.length c0] rfl (by (try simp only [aD,aE,aF]);first|done|rfl|(simp only [aG,aH];rfl)) ?_;(with_reducible refine (impl_GoodOffers.calls k _ _ l0 false _ ?side1 ?side2 A3.out).mono ?_);(case side1=>repeat (first|exact HR0.out|(with_reducible refine Kd.Ql ?_ _)|(with_reducible refine Kd.Qm ?_ _)|(with_reducible refine Kd.C_drew ?_)));(case side2=>exact HC0.out);rintro e w7 ⟨rfl,hb⟩;refine ⟨_,rfl,?_⟩;have n0_:=aM (Qg (by repeat (first|(with_reducible first|exact HB.out|apply Qc|apply Qa|apply Qb)|exact HB.out)) hb);clear HB;have HB:=n0_;clear n0_;(try clear hb);(try clear hb2);(try clear hk);(try clear hi)))
   go_ret
   exact ⟨by first|rfl|(simp [errW_none,errW_some] <;> rfl)|(simp [*,errW_none,errW_some] <;> rfl),by repeat (first|(with_reducible first|exact HB.out|apply Qc|apply Qa|apply Qb)|exact HB.out)⟩

def impl_Offer_gain.f (l0_0:List Int) (a1:Int):Option (Int):=if a1=0 then (some 0) else (if 0≤(wrap64 (a1 - 1)) then (if (wrap64 (a1 - 1))<(l0_0.length:Int) then (some (rd l0_0 (wrap64 (a1 - 1)))) else (none)) else (none))
set_option maxHeartbeats 8000000 in
set_option maxRecDepth 100000 in
theorem impl_Offer_gain.calls (A0_0:Option Addr) (c0_0:Nat) (l0_0:List Int) (a1:Int) (r:Int) (w:World) (hr0_0:Kd.C (Kd.int .i64) w A0_0 l0_0.length l0_0) (hc0_0:l0_0.length≤c0_0) (h:impl_Offer_gain.f l0_0 a1=some r) :
    Calls Try.prog 144 #[.agg #[.slice A0_0 l0_0.length c0_0],.int .i64 a1] w fun e w'=>e= .returned (.int .i64 r)∧Below w.heap.size w w':=by
  have hu53:=Try.underlying53;have HR0_0:=aM hr0_0;have HC0_0:=aM hc0_0;clear hr0_0 hc0_0;have HB:=aM (Below.refl w.heap.size w);have H:(if a1=0 then (some 0) else (if 0≤(wrap64 (a1 - 1)) then (if (wrap64 (a1 - 1))<(l0_0.length:Int) then (some (rd l0_0 (wrap64 (a1 - 1)))) else (none)) else (none)))=some r:=h;clear h;by_cases c3:a1=0
  ·rw [if_pos c3] at H;have c3b0:(a1 == 0)=true:=beq_iff_eq.mpr c3;have c3b1:(a1 != 0)=false:=bne_eq_false_iff_eq.mpr c3;clear c3;obtain rfl:=Option.some.inj H;go_enter Try.func144,Try.ntmps144;go_wp2_with (first|((with_reducible refine gate_dst (N:=2) rfl ?_);refine box_event ?hg (N:=2) ?hd (cs:=#[.slice A0_0 l0_0.length c0_0]) (t:=53) ?hr ?_;(case hd=>rfl);(case hg=>rfl);(case hr=>first|(go_simp;done)|(go_simp;rfl));intro gb101 hg w4 hbox hb;have n0_:=aM (Qg (by repeat (first|(with_reducible first|exact HB.out|apply Qc|apply Qa|apply Qb)|exact HB.out)) hb);have n1_:=aM (hbox);have n2_:=aM ((by rw [hg];exact (Qk (by repeat (first|(with_reducible first|exact HB.out|apply Qc|apply Qa|apply Qb)|exact HB.out))):w.heap.size≤gb101));have n3_:=aM ((by rw [hg];exact (Qk (by repeat (first|(with_reducible first|exact HB.out|apply Qc|apply Qa|apply Qb)|exact HB.out))):w.heap.size≤gb101));clear HB;have HB:=n0_;have BK101:=n1_;have GW101:=n2_;have GE101:=n3_;clear n0_ n1_ n2_ n3_;clear hb hbox hg))
   go_ret
   exact ⟨by first|rfl|(simp [errW_none,errW_some] <;> rfl)|(simp [*,errW_none,errW_some] <;> rfl),by repeat (first|(with_reducible first|exact HB.out|apply Qc|apply Qa|apply Qb|refine Qd ?_ GE101.out)|exact HB.out)⟩
  ·rw [if_neg c3] at H;have c3b0:(a1 == 0)=false:=beq_eq_false_iff_ne.mpr c3;have c3b1:(a1 != 0)=true:=bne_iff_ne.mpr c3;obtain ⟨ji5,hji5⟩:∃ j_:Int,(wrap64 (a1 - 1))=j_:=⟨_,rfl⟩;replace H:(if 0≤(ji5) then (if (ji5)<(l0_0.length:Int) then (some (rd l0_0 (ji5))) else (none)) else (none))=some r:=by first|(rw [hji5] at H;exact H)|(simp only [hji5] at H ⊢;exact H)
   have hji5w:(IntKind.i64.wrap (a1 - 1))=ji5:=(i64_w _).trans hji5;by_cases c6:0≤(ji5)
   ·rw [if_pos c6] at H;have c6b0:decide (0≤(ji5))=true:=decide_eq_true c6;clear c6;by_cases c7:(ji5)<(l0_0.length:Int)
    ·rw [if_pos c7] at H;have c7b0:decide ((ji5)<(l0_0.length:Int))=true:=decide_eq_true c7;clear c7;obtain rfl:=Option.some.inj H;go_enter Try.func144,Try.ntmps144;go_wp2_with (first|((with_reducible refine gate_dst (N:=2) rfl ?_);refine box_event ?hg (N:=2) ?hd (cs:=#[.slice A0_0 l0_0.length c0_0]) (t:=53) ?hr ?_;(case hd=>rfl);(case hg=>rfl);(case hr=>first|(go_simp;done)|(go_simp;rfl));intro gb101 hg w8 hbox hb;have n0_:=aM (Qg (by repeat (first|(with_reducible first|exact HB.out|apply Qc|apply Qa|apply Qb)|exact HB.out)) hb);have n1_:=aM (hbox);have n2_:=aM ((by rw [hg];exact (Qk (by repeat (first|(with_reducible first|exact HB.out|apply Qc|apply Qa|apply Qb)|exact HB.out))):w.heap.size≤gb101));have n3_:=aM ((by rw [hg];exact (Qk (by repeat (first|(with_reducible first|exact HB.out|apply Qc|apply Qa|apply Qb)|exact HB.out))):w.heap.size≤gb101));clear HB;have HB:=n0_;have BK101:=n1_;have GW101:=n2_;have GE101:=n3_;clear n0_ n1_ n2_ n3_;clear hb hbox hg;have hcz9_0:w8.cell? ⟨gb101,0,none⟩=some (.slice A0_0 l0_0.length c0_0):=(Qu BK101.out 0).trans rfl;have hfz9_0:=Qs BK101.out 0;have p102:0≤((ji5):Int):=of_decide_eq_true (by first|(with_reducible assumption)|assumption);have q102:(ji5)<(l0_0.length:Int):=of_decide_eq_true (by first|(with_reducible assumption)|assumption);obtain ⟨ad102,e102,hx102_0⟩:=Kd.at_int HR0_0.out (ji5) p102 q102;cases e102;replace hx102_0:=(HB.out.cell (aI w _ hx102_0)).trans hx102_0;replace p102:=eq_true p102;replace q102:=eq_true q102))
     go_ret
     exact ⟨by first|rfl|(simp [errW_none,errW_some] <;> rfl)|(simp only [←hji5];first|rfl|(simp [errW_none,errW_some] <;> rfl))|(simp [*,errW_none,errW_some] <;> rfl),by repeat (first|(with_reducible first|exact HB.out|apply Qc|apply Qa|apply Qb|refine Qd ?_ GE101.out)|exact HB.out)⟩
    ·rw [if_neg c7] at H;exact absurd H (by simp)
   ·rw [if_neg c6] at H;exact absurd H (by simp)

def slices_Clone_int_int.f (l0:List Int):Option (List Int):=(some (([]:List Int):List Int)).bind fun y101=>(if y101.length+l0.length<17592186044416 then (some (y101 ++ l0)) else (none))
set_option maxHeartbeats 8000000 in
set_option maxRecDepth 100000 in
theorem slices_Clone_int_int.calls (A0:Option Addr) (c0:Nat) (l0:List Int) (r:List Int) (w:World) (hr0:Kd.C (Kd.int .i64) w A0 l0.length l0) (hc0:l0.length≤c0) (h:slices_Clone_int_int.f l0=some r) :
    Calls Try.prog 219 #[.slice A0 l0.length c0] w fun e w'=>∃ v0_:Value,e= .returned (v0_)∧Kd.R (Kd.int .i64) 3 w' w.heap.size (fun _=>True) v0_ r∧Below w.heap.size w w':=by
  have HR0:=aM hr0;have HC0:=aM hc0;clear hr0 hc0;have HB:=aM (Below.refl w.heap.size w);have H:((some (([]:List Int):List Int)).bind fun y101=>(if y101.length+l0.length<17592186044416 then (some (y101 ++ l0)) else (none)))=some r:=h;clear h;by_cases hz2:A0=none
  ·have hz2l:l0=[]:=List.length_eq_zero_iff.mp (Nat.eq_zero_of_not_pos fun h_=>by obtain ⟨_,e_,_⟩:=HR0.out.2.2 h_;rw [hz2] at e_;cases e_);have hz2eql:∀ W_:World,(binOp BinOp.eql 23 (.slice A0 l0.length c0) (.slice none 0 0)).run Try.prog W_= .ok (.bool true) W_:=fun W_=>by rw [hz2];rfl
   have hz2neq:∀ W_:World,(binOp BinOp.neq 23 (.slice A0 l0.length c0) (.slice none 0 0)).run Try.prog W_= .ok (.bool false) W_:=fun W_=>by rw [hz2];rfl
   replace H:(some ([]:List Int))=some r:=by rw [hz2l] at H;simpa using H
   have hz2a:=aM hz2l;clear hz2 hz2l;obtain rfl:=Option.some.inj H;go_enter Try.func219,Try.ntmps219;go_wp2
   go_ret
   exact ⟨_,by first|rfl|(simp [errW_none,errW_some] <;> rfl)|(simp [*,errW_none,errW_some] <;> rfl),by first|exact Kd.R_nil _ _ _ _ _|exact Kd.N_nil _ _ _ _ _|exact Kd.V_nil _ _ _ _ _|exact Kd.Q_nil _ _ _ _ _|exact Kd.S_nil _ _ _ _ _,by repeat (first|(with_reducible first|exact HB.out|apply Qc|apply Qa|apply Qb)|exact HB.out)⟩
  ·skip
   have hz2eql:∀ W_:World,(binOp BinOp.eql 23 (.slice A0 l0.length c0) (.slice none 0 0)).run Try.prog W_= .ok (.bool false) W_:=fun W_=>by cases A0 with|none=>exact absurd rfl hz2|some a_=>rfl
   have hz2neq:∀ W_:World,(binOp BinOp.neq 23 (.slice A0 l0.length c0) (.slice none 0 0)).run Try.prog W_= .ok (.bool true) W_:=fun W_=>by cases A0 with|none=>exact absurd rfl hz2|some a_=>rfl
   clear hz2;obtain ⟨y101,hy101⟩:∃ y_:List Int,y_=(([]:List Int)):=⟨_,rfl⟩;replace H:(if y101.length+l0.length<17592186044416 then (some (y101 ++ l0)) else (none))=some r:=by first|(rw [hy101];with_reducible exact H)|(have H2_:=(Option.bind_some _ _).symm.trans H;rw [hy101];with_reducible exact H2_)|(have H2_:=(Option.bind_some _ _).symm.trans H;with_reducible exact H2_)|with_reducible exact H|(rw [hy101];exact H)|exact H
   have Ny101:=aM hy101;clear hy101;by_cases c3:y101.length+l0.length<17592186044416
   ·rw [if_pos c3] at H;have LMc3:=aM c3;clear c3;obtain ⟨y104,hy104⟩:∃ y_:List Int,y_=(y101 ++ l0):=⟨_,rfl⟩;replace H:(some y104)=some r:=by first|(rw [hy104];with_reducible exact H)|(have H2_:=(Option.bind_some _ _).symm.trans H;rw [hy104];with_reducible exact H2_)|(have H2_:=(Option.bind_some _ _).symm.trans H;with_reducible exact H2_)|with_reducible exact H|(rw [hy104];exact H)|exact H
    have Ny104:=aM hy104;clear hy104;obtain rfl:=Option.some.inj H;go_enter Try.func219,Try.ntmps219;go_wp2_with (first|((with_reducible refine gate_dst (N:=5) rfl ?_);refine Kd.R_lit (Kd.int .i64) _ 3 ?hg (N:=5) ?hd (xs:=([]:List Int)) (inner:=[]) (ok:=fun _=>True) (okp:=fun _=>True) ?hr ?hp (fun _ hk=>hk) trivial (Below.refl _ _) (Nat.le_refl _) (by simp) ?_;(case hd=>rfl);(case hg=>rfl);(case hr=>first|(go_simp;done)|(go_simp;rfl));(case hp=>exact (Reps.none _ _));intro v102 w4 ho5 hb hg_ hnew_;clear hg_ hnew_;(first|rw [←Ny101.out] at ho5|(simp only [Int.reduceToNat] at ho5;rw [←Ny101.out] at ho5));have n0_:=aM (Kd.R_lower ho5 (Qk (by repeat (first|(with_reducible first|exact HB.out|apply Qc|apply Qa|apply Qb)|exact HB.out))));have n1_:=aM (Qg (by repeat (first|(with_reducible first|exact HB.out|apply Qc|apply Qa|apply Qb)|exact HB.out)) hb);clear HB;have HO103:=n0_;have HB:=n1_;clear n0_ n1_;clear hb ho5)|((with_reducible refine gate_builtin (b:= .append) (xs:=#[.tmp 5,.tmp 6]) rfl ?_);at_builtin;refine Kd.R_append_rows (Kd.int .i64) (w0:=w) w.heap.size rfl (.tmp 5) (.tmp 6) 23 3 (.int .i64 0) 8 rfl Try.underlying23 info3 rfl (by decide) (by omega) v102 y101 l0 _ _ _ (fun _=>True) (fun _=>False) rfl rfl ?aO ?aR (fun _ _ h=>h) (fun _ h=>h.elim) ?aF ?aB ?aS ?aL ?_;(case aR=>repeat (first|exact (Kd.C_below HR0.out HB.out)|(with_reducible refine Kd.Ql ?_ _)|(with_reducible refine Kd.Qm ?_ _)|(with_reducible refine Kd.C_drew ?_)));(case aB=>exact (by repeat (first|(with_reducible first|exact HB.out|apply Qc|apply Qa|apply Qb)|exact HB.out)));(case aF=>exact (fun _ _=>trivial));(case aO=>exact (by (with_reducible repeat (first|apply Kd.Qf|apply Kd.Qe|apply Kd.R_drew));exact HO103.out));(case aS=>exact (Qk (by repeat (first|(with_reducible first|exact HB.out|apply Qc|apply Qa|apply Qb)|exact HB.out))));(case aL=>have:=LMc3.out;omega);intro v105 w6 ho hb hg hat;rw [←Ny104.out] at ho;have n0_:=aM (hb);have n1_:=aM (ho);clear HB;clear HO103;have HB:=n0_;have HO106:=n1_;clear n0_ n1_;clear ho hb hg hat))
    go_ret
    exact ⟨_,by first|rfl|(simp [errW_none,errW_some] <;> rfl)|(simp [*,errW_none,errW_some] <;> rfl),by (with_reducible repeat (first|apply Kd.Qf|apply Kd.Qe|apply Kd.R_drew));exact HO106.out,by repeat (first|(with_reducible first|exact HB.out|apply Qc|apply Qa|apply Qb)|exact HB.out)⟩
   ·rw [if_neg c3] at H;exact absurd H (by simp)

mutual
def impl_tables.l0:Nat→List (List Int)→List (S53)→Int→Int→Option ((List (List Int)))
  |0,_,_,_,_=>none
  |k+1,x5,x15,x16,x17=>if x17<x16 then (if 0≤x17 then (if x17<(x15.length:Int) then (if x17<(x5.length:Int) then ((slices_Clone_int_int.f (rd_L2 x5 x17)).bind fun t110=>(impl_tables.l1 k x5 x17 t110 x15 x16 x17 (t110.length:Int) 0 ((rd_T53 x15 x17).f0))) else (none)) else (none)) else (none)) else (some x5)
def impl_tables.l1:Nat→List (List Int)→Int→List Int→List (S53)→Int→Int→Int→Int→List Int→Option ((List (List Int)))
  |0,_,_,_,_,_,_,_,_,_=>none
  |k+1,x5,x6,x8,x15,x16,x17,x28,x29,x109000=>if x29<x28 then (impl_tables.l2 k x5 x6 x8 x29 1 x15 x16 x17 x28 x29 x109000) else (if x5.length<5864062014805 then (impl_tables.l0 k (x5 ++ [x8]) x15 x16 (wrap64 (x17+1))) else (none))
def impl_tables.l2:Nat→List (List Int)→Int→List Int→Int→Int→List (S53)→Int→Int→Int→Int→List Int→Option ((List (List Int)))
  |0,_,_,_,_,_,_,_,_,_,_,_=>none
  |k+1,x5,x6,x8,x9,x10,x15,x16,x17,x28,x29,x109000=>if x10≤(mn x9 (x109000.length:Int)) then (if 0≤x9 then (if x9<(x8.length:Int) then (if 0≤x6 then (if x6<(x5.length:Int) then (if 0≤(wrap64 (x9 - x10)) then (if (wrap64 (x9 - x10))<((rd_L2 x5 x6).length:Int) then ((impl_Offer_gain.f x109000 x10).bind fun t119=>(impl_tables.l2 k x5 x6 (x8.set (x9:Int).toNat (mx (rd x8 x9) (wrap64 ((rd (rd_L2 x5 x6) (wrap64 (x9 - x10)))+t119)))) x9 (wrap64 (x10+1)) x15 x16 x17 x28 x29 x109000)) else (none)) else (none)) else (none)) else (none)) else (none)) else (none)) else (impl_tables.l1 k x5 x6 x8 x15 x16 x17 x28 (wrap64 (x29+1)) x109000)
end
def impl_tables.f (k:Nat) (l0:List (S53)) (a1:Int):Option ((List (List Int))):=if 0≤(wrap64 (a1+1)) then (if (wrap64 (a1+1):Int).toNat≤35184372088832 then (impl_tables.l0 k (([(List.replicate (wrap64 (a1+1):Int).toNat 0)]:List (List Int))) l0 (l0.length:Int) 0) else (none)) else (none)
def impl_tables.T12:Bool×List (List Nat×List Nat):=(true,[([],[]),([],[]),([],[]),([],[]),([2,3],[2,3]),([4],[4]),([],[]),([],[]),([6,7],[6,7]),([8],[8]),([],[]),([],[]),([10,11],[10,11]),([9,12],[9,12]),([13],[13]),([],[]),([],[]),([15,16],[15,16]),([14,17],[14,17]),([5,18],[5,18]),([0,1,0,1,2,3,4,5,6,7,8,9,10,11,12,13,14,15,16,17,18,19],[0,1]),([20,19,17,0,1,2,3,4,5,6,7,8,9,10,11,12,13,14,15,16,17,18,19],[19,20])])
def impl_tables.B12:List Nat:=[0,0,0,0,12,28,0,0,192,448,0,0,3072,8128,16320,0,0,98304,262080,524284,1048575,2097151]
theorem impl_tables.tab12:rtab .any (opsOf Try.f141 12)=impl_tables.T12:=by kernel_rfl
theorem impl_tables.bits12:waitsOk impl_tables.T12.2 impl_tables.B12=true:=by kernel_rfl
set_option maxHeartbeats 8000000 in
set_option maxRecDepth 100000 in
theorem impl_tables.calls (k:Nat) (A0:Option Addr) (c0:Nat) (l0:List (S53)) (a1:Int) (r:List (List Int)) (w:World) (hr0:Kd.C k53 w A0 l0.length l0) (hc0:l0.length≤c0) (h:impl_tables.f k l0 a1=some r) :
    Calls Try.prog 141 #[.slice A0 l0.length c0,.int .i64 a1] w fun e w'=>∃ v0_:Value,e= .returned (v0_)∧Kd.N (Kd.slice 3 (Kd.int .i64)) 23 w' w.heap.size (fun k_=>(w.heap.size≤k_)) v0_ r∧Below w.heap.size w w':=by
  have hu53:=Try.underlying53;have HR0:=aM hr0;have HC0:=aM hc0;clear hr0 hc0;have HB:=aM (Below.refl w.heap.size w);have H:(if 0≤(wrap64 (a1+1)) then (if (wrap64 (a1+1):Int).toNat≤35184372088832 then (impl_tables.l0 k (([(List.replicate (wrap64 (a1+1):Int).toNat 0)]:List (List Int))) l0 (l0.length:Int) 0) else (none)) else (none))=some r:=h;clear h;obtain ⟨ji3,hji3⟩:∃ j_:Int,(wrap64 (a1+1))=j_:=⟨_,rfl⟩;replace H:(if 0≤(ji3) then (if (ji3:Int).toNat≤35184372088832 then (impl_tables.l0 k (([(List.replicate (ji3:Int).toNat 0)]:List (List Int))) l0 (l0.length:Int) 0) else (none)) else (none))=some r:=by first|(rw [hji3] at H;exact H)|(simp only [hji3] at H ⊢;exact H)
  have hji3w:(IntKind.i64.wrap (a1+1))=ji3:=(i64_w _).trans hji3;by_cases c4:0≤(ji3)
  ·rw [if_pos c4] at H;have c4b0:=eq_true c4;have c4b1:decide (0≤(ji3))=true:=decide_eq_true c4;clear c4;by_cases c5:(ji3:Int).toNat≤35184372088832
   ·rw [if_pos c5] at H;have c5b0:=eq_true c5;have c5b1:decide ((ji3:Int).toNat≤35184372088832)=true:=decide_eq_true c5;clear c5;obtain ⟨y101,hy101⟩:∃ y_:List Int,y_=(List.replicate (ji3:Int).toNat 0):=⟨_,rfl⟩;replace H:(impl_tables.l0 k (([y101]:List (List Int))) l0 (l0.length:Int) 0)=some r:=by first|(rw [hy101];with_reducible exact H)|(have H2_:=(Option.bind_some _ _).symm.trans H;rw [hy101];with_reducible exact H2_)|(have H2_:=(Option.bind_some _ _).symm.trans H;with_reducible exact H2_)|with_reducible exact H|(rw [hy101];exact H)|exact H
    have Ny101:=aM hy101;clear hy101;obtain ⟨y104,hy104⟩:∃ y_:List (List Int),y_=(([y101]:List (List Int))):=⟨_,rfl⟩;replace H:(impl_tables.l0 k y104 l0 (l0.length:Int) 0)=some r:=by first|(rw [hy104];with_reducible exact H)|(have H2_:=(Option.bind_some _ _).symm.trans H;rw [hy104];with_reducible exact H2_)|(have H2_:=(Option.bind_some _ _).symm.trans H;with_reducible exact H2_)|with_reducible exact H|(rw [hy104];exact H)|exact H
    have Ny104:=aM hy104;clear hy104;have H':=aM H;clear H;go_enter Try.func141,Try.ntmps141;go_wp2_with (first|((with_reducible refine gate_dst (N:=13) rfl ?_);refine Kd.R_make (Kd.int .i64) _ 3 rfl (N:=13) rfl 23 _ _ rfl ji3 rfl rfl Try.underlying23 (.int .i64 0) 8 info3 rfl (by decide) (by omega) 0 (ok:=fun _=>True) (okp:=fun _=>True) rfl (fun _ hk=>hk) trivial (of_decide_eq_true (by first|(with_reducible assumption)|assumption)) (Nat.le_trans (Nat.mul_le_mul_right _ (of_decide_eq_true (by first|(with_reducible assumption)|assumption):ji3.toNat≤35184372088832)) (by omega)) (Below.refl _ _) (Nat.le_refl _) ?_;intro v102 w6 ho7 hb hg_ hnew_;clear hg_ hnew_;(first|rw [←Ny101.out] at ho7|(simp only [Int.reduceToNat] at ho7;rw [←Ny101.out] at ho7));have n0_:=aM (Kd.R_lower (Kd.R_newM (M:=fun k_=>(w.heap.size≤k_)) ho7 (Qk (by repeat (first|(with_reducible first|exact HB.out|apply Qc|apply Qa|apply Qb)|exact HB.out))) (fun k_ h_=>h_)) (Qk (by repeat (first|(with_reducible first|exact HB.out|apply Qc|apply Qa|apply Qb)|exact HB.out))));have n1_:=aM (Qg (by repeat (first|(with_reducible first|exact HB.out|apply Qc|apply Qa|apply Qb)|exact HB.out)) hb);clear HB;have HO103:=n0_;have HB:=n1_;clear n0_ n1_;clear hb ho7;obtain ⟨Ao8,co8,eo8⟩:=Kd.R_slice HO103.out;subst eo8)|((with_reducible refine gate_dst (N:=14) rfl ?_);refine Kd.N_lit (Kd.slice 3 (Kd.int .i64)) _ 23 ?hg (N':=14) ?hd (xs:=([y101]:List (List Int))) (inner:=[.slice Ao8 y101.length co8]) (ok:=(fun k_=>(w.heap.size≤k_))) (okp:=(fun k_=>(w.heap.size≤k_))) ?hr ?hp (fun _ hk=>hk) ((show ∀ k_,w6.heap.size≤k_→(fun k_=>(w.heap.size≤k_)) k_ from fun k_ hk=>(Nat.le_trans (Qk (by repeat (first|(with_reducible first|exact HB.out|apply Qc|apply Qa|apply Qb)|exact HB.out))) hk)) _ (Nat.le_refl _)) (Below.refl _ _) (Nat.le_refl _) (by simp) ?_;(case hd=>rfl);(case hg=>rfl);(case hr=>first|(go_simp;done)|(go_simp;rfl));(case hp=>exact (Reps.one (show Kd.FK (Kd.slice 3 (Kd.int .i64)) _ _ y101 [.slice Ao8 y101.length co8] from (Kd.FK_slice_mk (Kd.Qn (Kd.R_mono (ok':=(fun k_=>(w.heap.size≤k_))) (HO103.out) (fun k_ hk=>hk.1))).2.1 (Kd.R_F (Kd.R_mono (ok':=(fun k_=>(w.heap.size≤k_))) (HO103.out) (fun k_ hk=>hk.1))))) (Reps.none _ _)));intro v105 w9 ho10 hb hg_ hnew_;clear hg_ hnew_;(first|rw [←Ny104.out] at ho10|(simp only [Int.reduceToNat] at ho10;rw [←Ny104.out] at ho10));have n0_:=aM (Kd.N_lower ho10 (Qk (by repeat (first|(with_reducible first|exact HB.out|apply Qc|apply Qa|apply Qb)|exact HB.out))));have n1_:=aM (Qg (by repeat (first|(with_reducible first|exact HB.out|apply Qc|apply Qa|apply Qb)|exact HB.out)) hb);clear HB;clear HO103;have HO106:=n0_;have HB:=n1_;clear n0_ n1_;clear hb ho10))
    go_loopg [5,17] k (fun kq v5 v17 w'=>∃ (x5_1:List (List Int)) (x17_1:Int),v17= .int .i64 x17_1∧Aside0 (impl_tables.l0 kq x5_1 l0 (l0.length:Int) x17_1=some r)∧Aside0 (kq≤k)∧Aside0 (Kd.N (Kd.slice 3 (Kd.int .i64)) 23 w' w.heap.size (fun k_=>(w.heap.size≤k_)) v5 x5_1)∧Aside0 (Below w.heap.size w w'))
    case atStart=>exact ⟨(y104),(0),(by first|rfl|(simp;done)|(simp [*];done)),H',⟨Nat.le_refl _⟩,⟨by (with_reducible repeat (first|apply Kd.Qp|apply Kd.Qo|apply Kd.N_drew));exact HO106.out⟩,⟨by repeat (first|(with_reducible first|exact HB.out|apply Qc|apply Qa|apply Qb)|exact HB.out)⟩⟩
    case round=>
     clear H';(try clear c1);(try clear p2);(try clear c4);(try clear c4b0);(try clear c4b1);(try clear c5);(try clear c5b0);(try clear c5b1);(try clear p6);obtain ⟨x5_1,x17_1,rfl,HA,HK1,HO_5,HB⟩:=hrel
     cases gk with
     |zero=>exact absurd HA.out (by simp [impl_tables.l0])
     |succ k1=>
      have H:=HA.out;clear HA;simp only [impl_tables.l0] at H;by_cases c11:x17_1<(l0.length:Int)
      ·rw [if_pos c11] at H;have c11b0:decide (x17_1<(l0.length:Int))=true:=decide_eq_true c11;clear c11;by_cases c12:0≤x17_1
       ·rw [if_pos c12] at H;have c12b0:decide (0≤x17_1)=true:=decide_eq_true c12;clear c12;by_cases c13:x17_1<(l0.length:Int)
        ·rw [if_pos c13] at H;have c13b0:decide (x17_1<(l0.length:Int))=true:=decide_eq_true c13;clear c13;by_cases c14:x17_1<(x5_1.length:Int)
         ·rw [if_pos c14] at H;have c14b0:decide (x17_1<(x5_1.length:Int))=true:=decide_eq_true c14;clear c14;replace H:=Option.bind_eq_some_iff.mp H;obtain ⟨t110,A150,H⟩:=H;replace H:(impl_tables.l1 k1 x5_1 x17_1 t110 l0 (l0.length:Int) x17_1 (t110.length:Int) 0 ((rd_T53 l0 x17_1).f0))=some r:=H;have A15:=aM A150;clear A150;have H':=aM H;clear H;have p107:0≤(x17_1:Int):=of_decide_eq_true (by first|(with_reducible assumption)|assumption);have q107:x17_1<(l0.length:Int):=of_decide_eq_true (by first|(with_reducible assumption)|assumption);obtain ⟨ad107,A107_0,c107_0,e107,hx107_0,hl107_0,hi107_0⟩:=at_T53 HR0.out x17_1 p107 q107
          cases e107
          replace hx107_0:=(HB.out.cell (aI w _ hx107_0)).trans hx107_0;have HR107_0:=aM hi107_0;have HC107_0:=aM hl107_0;clear hi107_0 hl107_0;replace p107:=eq_true p107;replace q107:=eq_true q107;go_wp2_with (first|((with_reducible refine gate_dst (N:=7) rfl ?_);refine box_event ?hg (N:=7) ?hd (cs:=#[.slice none 0 0]) (t:=53) ?hr ?_;(case hd=>rfl);(case hg=>rfl);(case hr=>first|(go_simp;done)|(go_simp;rfl));intro gb108 hg w16 hbox hb;have n0_:=aM (Kd.Qw (Kd.N_elderB (by (with_reducible repeat (first|apply Kd.Qp|apply Kd.Qo|apply Kd.N_drew));exact HO_5.out) gb108 (Nat.le_of_eq hg.symm)) hb);have n1_:=aM (Qg (by repeat (first|(with_reducible first|exact HB.out|apply Qc|apply Qa|apply Qb)|exact HB.out)) hb);have n2_:=aM (hbox);have n3_:=aM ((by rw [hg];exact (Qk (by repeat (first|(with_reducible first|exact HB.out|apply Qc|apply Qa|apply Qb)|exact HB.out))):w.heap.size≤gb108));have n4_:=aM ((by rw [hg];exact (Qk (by repeat (first|(with_reducible first|exact HB.out|apply Qc|apply Qa|apply Qb)|exact HB.out))):w.heap.size≤gb108));clear HO_5;clear HB;have HO_5:=n0_;have HB:=n1_;have BK108:=n2_;have GW108:=n3_;have GE108:=n4_;clear n0_ n1_ n2_ n3_ n4_;clear hb hbox hg;have hcz17_0:w16.cell? ⟨gb108,0,none⟩=some (.slice none 0 0):=(Qu BK108.out 0).trans rfl;have hfz17_0:=Qs BK108.out 0)|((with_reducible refine gate_store (t:=53) (p:=7) rfl ?_);refine store_event (t:=53) (p:=7) (v:=?vo_w18) (w1:=(w16.setCell ⟨gb108,0,none⟩ (.slice A107_0 ((rd_T53 l0 x17_1).f0).length c107_0))) ?hg ?ho ?hn ?hr ?_;(case ho=>rfl);(case hg=>rfl);(case hn=>rfl);(case hr=>first|(go_simp;done)|(go_simp;rfl));intro w18 hw;have n0_:Aside0 (Kd.N (Kd.slice 3 (Kd.int .i64)) 23 w18 w.heap.size (fun k_=>(w.heap.size≤k_)∧k_≠gb108) u5 x5_1):=⟨(by rw [hw];exact (by (with_reducible repeat (first|apply Kd.Qp|apply Kd.Qo|apply Kd.N_drew));exact Kd.N_mono (Kd.N_far (p:=⟨gb108,0,none⟩) (Kd.N_mono HO_5.out (fun k_ hk=>(⟨hk,hk.2⟩:_∧k_≠gb108))) (fun _ hk=>hk.2) (.slice A107_0 ((rd_T53 l0 x17_1).f0).length c107_0)) (fun _ hk=>⟨hk.1.1,hk.1.2⟩)))⟩;have n1_:Aside0 (w18.heap[gb108]? = some (.cells #[.slice A107_0 ((rd_T53 l0 x17_1).f0).length c107_0] 53 (0,0))):=⟨(by rw [hw];exact (by (with_reducible repeat (first|apply Qi|apply Qj|apply Qh));refine blk_put (cs:=#[.slice none 0 0]) ?_ 0 _ rfl;(with_reducible repeat (first|apply Qi|apply Qj|apply Qh));exact BK108.out))⟩;have n2_:Aside0 (Below w.heap.size w w18):=⟨(by rw [hw];exact (by repeat (first|(with_reducible first|exact HB.out|apply Qc|apply Qa|apply Qb|refine Qd ?_ GE108.out)|exact HB.out)))⟩;clear hw;clear HO_5;clear BK108;clear HB;have HO_5:=n0_;have BK108:=n1_;have HB:=n2_;clear n0_ n1_ n2_;obtain ⟨Ao19,co19,eo19⟩:=Kd.N_slice HO_5.out;subst eo19;have p109:0≤(x17_1:Int):=of_decide_eq_true (by first|(with_reducible assumption)|assumption);have q109:x17_1<(x5_1.length:Int):=of_decide_eq_true (by first|(with_reducible assumption)|assumption);obtain ⟨ad109,A109_0,c109_0,e109,hx109_0,hl109_0,hi109_0⟩:=at_L2 (Kd.Qq HO_5.out).2.2 x17_1 p109 q109;cases e109;obtain ⟨ce109,hce109,hMe109,hcc109⟩:=Kd.N_get HO_5.out [] x17_1 p109 (by first|exact q109|exact of_decide_eq_true (by first|(with_reducible assumption)|assumption)|(have e_:=(Kd.Qq HO_5.out).1;omega));obtain ⟨ua109_0,uc109_0,rfl,ul109_0,ge109_0⟩:=Kd.FK_slice_open hMe109;have hv109_0:=hcc109 0 _ rfl;rw [Nat.add_zero,show ((Kd.slice 3 (Kd.int .i64))).sz=1 from rfl,Nat.mul_one] at hv109_0;replace hv109_0:=Option.some.inj (hv109_0.symm.trans hx109_0);injection hv109_0 with hva_ hvn_ hvc_;rw [hva_] at ge109_0;rw [hvc_] at ul109_0;have HL109_0:=aM (show Kd.V (Kd.int .i64) 3 _ w.heap.size _ _ (rd_L2 x5_1 x17_1) from Kd.V_mk ul109_0 ge109_0);clear hva_ hvn_ hvc_ ge109_0 ul109_0;clear hcc109 hce109;have HR109_0:=aM hi109_0;have HC109_0:=aM hl109_0;clear hi109_0 hl109_0;replace p109:=eq_true p109;replace q109:=eq_true q109)|((with_reducible refine Qt (f:=219) rfl ?_);refine goesL_ (some 26) rfl rfl Try.func219 (by kernel_rfl) rfl #[.slice A109_0 (rd_L2 x5_1 x17_1).length c109_0] rfl (by (try simp only [aD,aE,aF]);first|done|rfl|(simp only [aG,aH];rfl)) ?_;(with_reducible refine (slices_Clone_int_int.calls _ _ (rd_L2 x5_1 x17_1) t110 _ ?side1 ?side2 A15.out).mono ?_);(case side1=>repeat (first|exact (by repeat (first|(with_reducible exact HR109_0.out)|(with_reducible refine Kd.Ql ?_ _)|(with_reducible refine Kd.Qm ?_ _)|(with_reducible refine Kd.C_drew ?_)|exact HR109_0.out))|(with_reducible refine Kd.Ql ?_ _)|(with_reducible refine Kd.Qm ?_ _)|(with_reducible refine Kd.C_drew ?_)));(case side2=>exact HC109_0.out);rintro e w20 ⟨v111,rfl,ho0,hb⟩;refine ⟨_,rfl,?_⟩;have n0_:=aM (Kd.N_elder' (by (with_reducible repeat (first|apply Kd.Qp|apply Kd.Qo|apply Kd.N_drew));exact HO_5.out) (Kd.R_base ho0) hb);have n1_:=aM (Kd.V_elder' (by (with_reducible repeat (first|apply Kd.V_alloc|apply Kd.V_drewN|apply Kd.V_drew));exact HL109_0.out) (Kd.R_base ho0) hb);have n2_:=aM (Kd.R_lower (Kd.R_newM (M:=fun k_=>(w.heap.size≤k_)) ho0 (Qk (by repeat (first|(with_reducible first|exact HB.out|apply Qc|apply Qa|apply Qb|refine Qd ?_ GE108.out)|exact HB.out))) (fun k_ h_=>h_)) (Qk (by repeat (first|(with_reducible first|exact HB.out|apply Qc|apply Qa|apply Qb|refine Qd ?_ GE108.out)|exact HB.out))));have n3_:=aM (Qz (g:=gb108) (o:= .cells #[.slice A107_0 ((rd_T53 l0 x17_1).f0).length c107_0] 53 (0,0)) (by (with_reducible repeat (first|apply Qi|apply Qj|apply Qh));exact BK108.out) hb);have n4_:=aM (Kd.C_below (by repeat (first|(with_reducible exact HR109_0.out)|(with_reducible refine Kd.Ql ?_ _)|(with_reducible refine Kd.Qm ?_ _)|(with_reducible refine Kd.C_drew ?_)|exact HR109_0.out)) hb);have n5_:=aM (Qg (by repeat (first|(with_reducible first|exact HB.out|apply Qc|apply Qa|apply Qb|refine Qd ?_ GE108.out)|exact HB.out)) hb);clear HO_5;clear HL109_0;clear BK108;clear HR109_0;clear HB;have HO_5:=n0_;have HL109_0:=n1_;have HO112:=n2_;have BK108:=n3_;have HR109_0:=n4_;have HB:=n5_;clear n0_ n1_ n2_ n3_ n4_ n5_;(try clear hb);(try clear hb2);(try clear hk);(try clear hi);(try clear ho0);obtain ⟨Ao21,co21,eo21⟩:=Kd.R_slice HO112.out;subst eo21))
          go_loopg [29] k1 (fun kq v29 w'=>∃ (x8_2:List Int) (x29_2:Int),v29= .int .i64 x29_2∧Aside0 (impl_tables.l1 kq x5_1 x17_1 x8_2 l0 (l0.length:Int) x17_1 (t110.length:Int) x29_2 ((rd_T53 l0 x17_1).f0)=some r)∧Aside0 (kq≤k1)∧Aside0 (Kd.N (Kd.slice 3 (Kd.int .i64)) 23 w' w.heap.size (fun k_=>(w.heap.size≤k_)∧some k_≠((.slice Ao21 t110.length co21):Value).ownBlock∧k_≠gb108) (.slice (some ad109) x5_1.length co19) x5_1)∧Aside0 (Kd.R (Kd.int .i64) 3 w' w.heap.size (fun k_=>(w.heap.size≤k_)) (.slice Ao21 t110.length co21) x8_2)∧Aside0 (w'.heap[gb108]? = some (.cells #[(.slice A107_0 ((rd_T53 l0 x17_1).f0).length c107_0)] 53 (0,0)))∧Aside0 (Below w.heap.size w w'))
          case atStart=>exact ⟨(t110),(0),(by first|rfl|(simp;done)|(simp [*];done)),H',⟨Nat.le_refl _⟩,⟨by (with_reducible repeat (first|apply Kd.Qp|apply Kd.Qo|apply Kd.N_drew));exact Kd.N_mono HO_5.out (fun _ hk=>⟨hk.1.1,⟨hk.2,hk.1.2⟩⟩)⟩,⟨by (with_reducible repeat (first|apply Kd.Qf|apply Kd.Qe|apply Kd.R_drew));exact Kd.R_mono HO112.out (fun _ hk=>hk.1)⟩,⟨by (with_reducible repeat (first|apply Qi|apply Qj|apply Qh));exact BK108.out⟩,⟨by repeat (first|(with_reducible first|exact HB.out|apply Qc|apply Qa|apply Qb|refine Qd ?_ GE108.out)|exact HB.out)⟩⟩
          case round=>
           clear H';(try clear c1);(try clear p1);(try clear q1);(try clear hx1);(try clear c2);(try clear p2);(try clear c4);(try clear c4b0);(try clear c4b1);(try clear c5);(try clear c5b0);(try clear c5b1);(try clear p6);(try clear c10);(try clear p10);(try clear q10);(try clear hx10);(try clear c11);(try clear c11b0);(try clear c12);(try clear c12b0);(try clear c13);(try clear c13b0);(try clear c14);(try clear c14b0);(try clear c21);(try clear hcz17_0);(try clear hfz17_0);(try clear hx107_0);(try clear hx109_0);(try clear p107);(try clear p109);(try clear p2);(try clear p6);(try clear q107);(try clear q109);obtain ⟨x8_2,x29_2,rfl,HA,HK2,HO_5,HO_8,BK108,HB⟩:=hrel;have hl8_2:=(Kd.Qn HO_8.out).1;rw [hl8_2] at HO_8;(try simp only [hl8_2]);(try simp only [hl8_2] at BK108);(try simp only [hl8_2] at HO_5)
           cases gk with
           |zero=>exact absurd HA.out (by simp [impl_tables.l1])
           |succ k2=>
            have H:=HA.out;clear HA;simp only [impl_tables.l1] at H;by_cases c22:x29_2<(t110.length:Int)
            ·rw [if_pos c22] at H;have c22b0:decide (x29_2<(t110.length:Int))=true:=decide_eq_true c22;have c22b0l:=c22b0;(try simp only [hl8_2] at c22b0l);clear c22;have H':=aM H;clear H;go_wp2;go_loopg [10] k2 (fun kq v10 w'=>∃ (x8_3:List Int) (x10_3:Int),v10= .int .i64 x10_3∧Aside0 (impl_tables.l2 kq x5_1 x17_1 x8_3 x29_2 x10_3 l0 (l0.length:Int) x17_1 (t110.length:Int) x29_2 ((rd_T53 l0 x17_1).f0)=some r)∧Aside0 (kq≤k2)∧Aside0 (Kd.N (Kd.slice 3 (Kd.int .i64)) 23 w' w.heap.size (fun k_=>(w.heap.size≤k_)∧some k_≠((.slice Ao21 x8_2.length co21):Value).ownBlock∧k_≠gb108) (.slice (some ad109) x5_1.length co19) x5_1)∧Aside0 (Kd.R (Kd.int .i64) 3 w' w.heap.size (fun k_=>(w.heap.size≤k_)) (.slice Ao21 x8_2.length co21) x8_3)∧Aside0 (w'.heap[gb108]? = some (.cells #[(.slice A107_0 ((rd_T53 l0 x17_1).f0).length c107_0)] 53 (0,0)))∧Aside0 (Below w.heap.size w w'))
             case atStart=>exact ⟨(x8_2),(1),(by first|rfl|(simp;done)|(simp [*];done)),H',⟨Nat.le_refl _⟩,⟨by (try simp only [hl8_2]);(with_reducible repeat (first|apply Kd.Qp|apply Kd.Qo|apply Kd.N_drew));exact HO_5.out⟩,⟨by (try simp only [hl8_2]);(with_reducible repeat (first|apply Kd.Qf|apply Kd.Qe|apply Kd.R_drew));exact HO_8.out⟩,⟨by (try simp only [hl8_2]);(with_reducible repeat (first|apply Qi|apply Qj|apply Qh));exact BK108.out⟩,⟨by repeat (first|(with_reducible first|exact HB.out|apply Qc|apply Qa|apply Qb|refine Qd ?_ GE108.out)|exact HB.out)⟩⟩
             case round=>
              clear H';(try clear c1);(try clear p1);(try clear q1);(try clear hx1);(try clear c2);(try clear p2);(try clear c4);(try clear c4b0);(try clear c4b1);(try clear c5);(try clear c5b0);(try clear c5b1);(try clear p6);(try clear c10);(try clear p10);(try clear q10);(try clear hx10);(try clear c11);(try clear c11b0);(try clear c12);(try clear c12b0);(try clear c13);(try clear c13b0);(try clear c14);(try clear c14b0);(try clear c21);(try clear c22);(try clear c22b0);(try clear hcz17_0);(try clear hfz17_0);(try clear hx107_0);(try clear hx109_0);(try clear p1);(try clear p10);(try clear p107);(try clear p109);(try clear p2);(try clear p6);(try clear q1);(try clear q10);(try clear q107);(try clear q109);obtain ⟨x8_3,x10_3,rfl,HA,HK3,HO_5,HO_8,BK108,HB⟩:=hrel;have hl8_3:=(Kd.Qn HO_8.out).1;rw [hl8_3] at HO_8;(try simp only [hl8_3]);(try simp only [hl8_3] at BK108);(try simp only [hl8_3] at HO_5)
              cases gk with
              |zero=>exact absurd HA.out (by simp [impl_tables.l2])
              |succ k3=>
               have H:=HA.out;clear HA;simp only [impl_tables.l2] at H;obtain ⟨ji23,hji23⟩:∃ j_:Int,(mn x29_2 (((rd_T53 l0 x17_1).f0).length:Int))=j_:=⟨_,rfl⟩;replace H:(if x10_3≤(ji23) then (if 0≤x29_2 then (if x29_2<(x8_3.length:Int) then (if 0≤x17_1 then (if x17_1<(x5_1.length:Int) then (if 0≤(wrap64 (x29_2 - x10_3)) then (if (wrap64 (x29_2 - x10_3))<((rd_L2 x5_1 x17_1).length:Int) then ((impl_Offer_gain.f ((rd_T53 l0 x17_1).f0) x10_3).bind fun t119=>(impl_tables.l2 k3 x5_1 x17_1 (x8_3.set (x29_2:Int).toNat (mx (rd x8_3 x29_2) (wrap64 ((rd (rd_L2 x5_1 x17_1) (wrap64 (x29_2 - x10_3)))+t119)))) x29_2 (wrap64 (x10_3+1)) l0 (l0.length:Int) x17_1 (t110.length:Int) x29_2 ((rd_T53 l0 x17_1).f0))) else (none)) else (none)) else (none)) else (none)) else (none)) else (none)) else (impl_tables.l1 k3 x5_1 x17_1 x8_3 l0 (l0.length:Int) x17_1 (t110.length:Int) (wrap64 (x29_2+1)) ((rd_T53 l0 x17_1).f0)))=some r:=by first|(rw [hji23] at H;exact H)|(simp only [hji23] at H ⊢;exact H)
               have hji23_:(if (((rd_T53 l0 x17_1).f0).length:Int)<x29_2 then (((rd_T53 l0 x17_1).f0).length:Int) else x29_2)=ji23:=hji23;by_cases c24:x10_3≤(ji23)
               ·rw [if_pos c24] at H;have c24b0:decide (x10_3≤(ji23))=true:=decide_eq_true c24;clear c24;by_cases c25:0≤x29_2
                ·rw [if_pos c25] at H;have c25b0:decide (0≤x29_2)=true:=decide_eq_true c25;clear c25;by_cases c26:x29_2<(x8_3.length:Int)
                 ·rw [if_pos c26] at H;have c26b0:decide (x29_2<(x8_3.length:Int))=true:=decide_eq_true c26;clear c26;by_cases c27:0≤x17_1
                  ·rw [if_pos c27] at H;have c27b0:decide (0≤x17_1)=true:=decide_eq_true c27;clear c27;by_cases c28:x17_1<(x5_1.length:Int)
                   ·rw [if_pos c28] at H;have c28b0:decide (x17_1<(x5_1.length:Int))=true:=decide_eq_true c28;clear c28;obtain ⟨ji29,hji29⟩:∃ j_:Int,(wrap64 (x29_2 - x10_3))=j_:=⟨_,rfl⟩;replace H:(if 0≤(ji29) then (if (ji29)<((rd_L2 x5_1 x17_1).length:Int) then ((impl_Offer_gain.f ((rd_T53 l0 x17_1).f0) x10_3).bind fun t119=>(impl_tables.l2 k3 x5_1 x17_1 (x8_3.set (x29_2:Int).toNat (mx (rd x8_3 x29_2) (wrap64 ((rd (rd_L2 x5_1 x17_1) (ji29))+t119)))) x29_2 (wrap64 (x10_3+1)) l0 (l0.length:Int) x17_1 (t110.length:Int) x29_2 ((rd_T53 l0 x17_1).f0))) else (none)) else (none))=some r:=by first|(rw [hji29] at H;exact H)|(simp only [hji29] at H ⊢;exact H)
                    have hji29w:(IntKind.i64.wrap (x29_2 - x10_3))=ji29:=(i64_w _).trans hji29;by_cases c30:0≤(ji29)
                    ·rw [if_pos c30] at H;have c30b0:decide (0≤(ji29))=true:=decide_eq_true c30;clear c30;by_cases c31:(ji29)<((rd_L2 x5_1 x17_1).length:Int)
                     ·rw [if_pos c31] at H;have c31b0:decide ((ji29)<((rd_L2 x5_1 x17_1).length:Int))=true:=decide_eq_true c31;clear c31;replace H:=Option.bind_eq_some_iff.mp H;obtain ⟨t119,A320,H⟩:=H;replace H:(impl_tables.l2 k3 x5_1 x17_1 (x8_3.set (x29_2:Int).toNat (mx (rd x8_3 x29_2) (wrap64 ((rd (rd_L2 x5_1 x17_1) (ji29))+t119)))) x29_2 (wrap64 (x10_3+1)) l0 (l0.length:Int) x17_1 (t110.length:Int) x29_2 ((rd_T53 l0 x17_1).f0))=some r:=H;have A32:=aM A320;clear A320;obtain ⟨ji33,hji33⟩:∃ j_:Int,(mx (rd x8_3 x29_2) (wrap64 ((rd (rd_L2 x5_1 x17_1) (ji29))+t119)))=j_:=⟨_,rfl⟩;replace H:(impl_tables.l2 k3 x5_1 x17_1 (x8_3.set (x29_2:Int).toNat (ji33)) x29_2 (wrap64 (x10_3+1)) l0 (l0.length:Int) x17_1 (t110.length:Int) x29_2 ((rd_T53 l0 x17_1).f0))=some r:=by first|(rw [hji33] at H;exact H)|(simp only [hji33] at H ⊢;exact H)
                      (try rw [hji33] at A32);have hji33_:(if (rd x8_3 x29_2)<(wrap64 ((rd (rd_L2 x5_1 x17_1) (ji29))+t119)) then (wrap64 ((rd (rd_L2 x5_1 x17_1) (ji29))+t119)) else (rd x8_3 x29_2))=ji33:=hji33;obtain ⟨y120,hy120⟩:∃ y_:List Int,y_=(x8_3.set (x29_2:Int).toNat (ji33)):=⟨_,rfl⟩;replace H:(impl_tables.l2 k3 x5_1 x17_1 y120 x29_2 (wrap64 (x10_3+1)) l0 (l0.length:Int) x17_1 (t110.length:Int) x29_2 ((rd_T53 l0 x17_1).f0))=some r:=by first|(rw [hy120];with_reducible exact H)|(have H2_:=(Option.bind_some _ _).symm.trans H;rw [hy120];with_reducible exact H2_)|(have H2_:=(Option.bind_some _ _).symm.trans H;with_reducible exact H2_)|with_reducible exact H|(rw [hy120];exact H)|exact H
                      have Ny120:=aM hy120;clear hy120;have H':=aM H;clear H;have hcz35_0:wr.cell? ⟨gb108,0,none⟩=some (.slice A107_0 ((rd_T53 l0 x17_1).f0).length c107_0):=(Qu BK108.out 0).trans rfl;have hfz35_0:=Qs BK108.out 0
                      try go_wp2
                      have n0_:=aM (Kd.N_drew HO_5.out);have n1_:=aM (Kd.R_drew HO_8.out);have n2_:=aM (Qj BK108.out);have n3_:=aM (Qb HB.out);clear HO_5;clear HO_8;clear BK108;clear HB;have HO_5:=n0_;have HO_8:=n1_;have BK108:=n2_;have HB:=n3_;clear n0_ n1_ n2_ n3_;have p116:0≤(x29_2:Int):=of_decide_eq_true (by first|(with_reducible assumption)|assumption);have q116:x29_2<(x8_3.length:Int):=of_decide_eq_true (by first|(with_reducible assumption)|assumption);obtain ⟨ad116,e116,hx116_0⟩:=Kd.at_int (Kd.Qn HO_8.out).2.2 x29_2 p116 q116
                      cases e116
                      replace p116:=eq_true p116;replace q116:=eq_true q116;have p117:0≤(x17_1:Int):=of_decide_eq_true (by first|(with_reducible assumption)|assumption);have q117:x17_1<(x5_1.length:Int):=of_decide_eq_true (by first|(with_reducible assumption)|assumption);obtain ⟨ad117,A117_0,c117_0,e117,hx117_0,hl117_0,hi117_0⟩:=at_L2 (Kd.Qq HO_5.out).2.2 x17_1 p117 q117;obtain rfl:ad109=ad117:=(by injection e117);obtain ⟨ce117,hce117,hMe117,hcc117⟩:=Kd.N_get HO_5.out [] x17_1 p117 (by first|exact q117|exact of_decide_eq_true (by first|(with_reducible assumption)|assumption)|(have e_:=(Kd.Qq HO_5.out).1;omega));obtain ⟨ua117_0,uc117_0,rfl,ul117_0,ge117_0⟩:=Kd.FK_slice_open hMe117;have hv117_0:=hcc117 0 _ rfl;rw [Nat.add_zero,show ((Kd.slice 3 (Kd.int .i64))).sz=1 from rfl,Nat.mul_one] at hv117_0;replace hv117_0:=Option.some.inj (hv117_0.symm.trans hx117_0)
                      injection hv117_0 with hva_ hvn_ hvc_
                      rw [hva_] at ge117_0;rw [hvc_] at ul117_0;have HL117_0:=aM (show Kd.V (Kd.int .i64) 3 _ w.heap.size _ _ (rd_L2 x5_1 x17_1) from Kd.V_mk ul117_0 ge117_0);clear hva_ hvn_ hvc_ ge117_0 ul117_0;clear hcc117 hce117;have HR117_0:=aM hi117_0;have HC117_0:=aM hl117_0;clear hi117_0 hl117_0;replace p117:=eq_true p117;replace q117:=eq_true q117;have p118:0≤((ji29):Int):=of_decide_eq_true (by first|(with_reducible assumption)|assumption);have q118:(ji29)<((rd_L2 x5_1 x17_1).length:Int):=of_decide_eq_true (by first|(with_reducible assumption)|assumption);obtain ⟨ad118,e118,hx118_0⟩:=Kd.at_int (by repeat (first|(with_reducible exact HR117_0.out)|(with_reducible refine Kd.Ql ?_ _)|(with_reducible refine Kd.Qm ?_ _)|(with_reducible refine Kd.C_drew ?_)|exact HR117_0.out)) (ji29) p118 q118
                      cases e118
                      replace p118:=eq_true p118;replace q118:=eq_true q118;refine start_ (n:=22) (S:=fun w'=>w'.cell? ⟨gb108,0,none⟩=some (.slice A107_0 ((rd_T53 l0 x17_1).f0).length c107_0)∧w'.cell? (ad116.add (x29_2).toNat)=some (.int .i64 (rd x8_3 x29_2))∧w'.cell? (ad109.add (x17_1).toNat)=some (.slice (some ad118) (rd_L2 x5_1 x17_1).length c117_0)∧w'.cell? (ad118.add ((ji29)).toNat)=some (.int .i64 (rd (rd_L2 x5_1 x17_1) (ji29)))) (ds:=[21]) #[false,false,false,false,false,false,false,false,false,false,false,false,false,false,false,false,false,false,false,false,false,false] (by kernel_rfl) rfl rfl ⟨(Qu BK108.out 0).trans rfl,hx116_0,hx117_0,hx118_0⟩ (fun hHeld=>?_);refine with_tabW impl_tables.tab12 impl_tables.bits12 (fun HT_ HW_=>?_)
                      generalize wr.drew=w36 at HO_5 HO_8 BK108 HB HL117_0 HR117_0 hx116_0 hx117_0 hx118_0 hHeld ⊢
                      refine pure_ (i:=0) (N:=some 41) (v:=?_) (a':=?_) #[true,false,false,false,false,false,false,false,false,false,false,false,false,false,false,false,false,false,false,false,false,false] rfl rfl (any_of HT_.out (by kernel_rfl)) (fun _ _ _ h=>h) (Or.inl ⟨by rfl,?_⟩) ?_ ?_
                      rotate_left
                      ·intro w'
                       go_simp
                       with_reducible rfl
                      rotate_left
                      ·simp only [Act.put,aA,aB,aC,i64_w,i32_w]
                       rfl
                      refine pure_ (i:=1) (N:=some 42) (v:=?_) (a':=?_) #[true,true,false,false,false,false,false,false,false,false,false,false,false,false,false,false,false,false,false,false,false,false] rfl rfl (any_of HT_.out (by kernel_rfl)) (fun _ _ _ h=>h) (Or.inl ⟨by rfl,?_⟩) ?_ ?_
                      rotate_left
                      ·intro w'
                       go_simp
                       with_reducible rfl
                      rotate_left
                      ·simp only [Act.put,aA,aB,aC,i64_w,i32_w]
                       rfl
                      refine pure_ (i:=2) (N:=some 43) (v:=?_) (a':=?_) #[true,true,true,false,false,false,false,false,false,false,false,false,false,false,false,false,false,false,false,false,false,false] rfl rfl (any_of HT_.out (by kernel_rfl)) (fun _ _ _ h=>h) (Or.inl ⟨by rfl,?_⟩) ?_ ?_
                      rotate_left
                      ·intro w'
                       go_simp
                       with_reducible rfl
                      rotate_left
                      ·simp only [Act.put,aA,aB,aC,i64_w,i32_w]
                       rfl
                      refine pure_ (i:=3) (N:=some 44) (v:=?_) (a':=?_) #[true,true,true,true,false,false,false,false,false,false,false,false,false,false,false,false,false,false,false,false,false,false] rfl rfl (any_of HT_.out (by kernel_rfl)) (fun _ _ _ h=>h) (Or.inl ⟨by rfl,?_⟩) ?_ ?_
                      rotate_left
                      ·intro w'
                       go_simp
                       with_reducible rfl
                      rotate_left
                      ·simp only [Act.put,aA,aB,aC,i64_w,i32_w]
                       rfl
                      refine pure_ (i:=4) (N:=some 45) (v:=?_) (a':=?_) #[true,true,true,true,true,false,false,false,false,false,false,false,false,false,false,false,false,false,false,false,false,false] rfl rfl (any_of HT_.out (by kernel_rfl)) (fun _ _ _ h=>h) (Or.inl ⟨by rfl,?_⟩) ?_ ?_
                      rotate_left
                      ·intro w'
                       go_simp
                       with_reducible rfl
                      rotate_left
                      ·simp only [Act.put,aA,aB,aC,i64_w,i32_w]
                       rfl
                      refine pure_ (i:=6) (N:=some 47) (v:=?_) (a':=?_) #[true,true,true,true,true,false,true,false,false,false,false,false,false,false,false,false,false,false,false,false,false,false] rfl rfl (any_of HT_.out (by kernel_rfl)) (fun _ _ _ h=>h) (Or.inl ⟨by rfl,?_⟩) ?_ ?_
                      rotate_left
                      ·intro w'
                       go_simp
                       with_reducible rfl
                      rotate_left
                      ·simp only [Act.put,aA,aB,aC,i64_w,i32_w]
                       rfl
                      refine pure_ (i:=7) (N:=some 48) (v:=?_) (a':=?_) #[true,true,true,true,true,false,true,true,false,false,false,false,false,false,false,false,false,false,false,false,false,false] rfl rfl (any_of HT_.out (by kernel_rfl)) (fun _ _ _ h=>h) (Or.inl ⟨by rfl,?_⟩) ?_ ?_
                      rotate_left
                      ·intro w'
                       go_simp
                       with_reducible rfl
                      rotate_left
                      ·simp only [Act.put,aA,aB,aC,i64_w,i32_w]
                       rfl
                      refine pure_ (i:=8) (N:=some 49) (v:=?_) (a':=?_) #[true,true,true,true,true,false,true,true,true,false,false,false,false,false,false,false,false,false,false,false,false,false] rfl rfl (any_of HT_.out (by kernel_rfl)) (fun _ _ _ h=>h) (Or.inl ⟨by rfl,?_⟩) ?_ ?_
                      rotate_left
                      ·intro w'
                       go_simp
                       with_reducible rfl
                      rotate_left
                      ·simp only [Act.put,aA,aB,aC,i64_w,i32_w]
                       rfl
                      refine pure_ (i:=10) (N:=some 51) (v:=?_) (a':=?_) #[true,true,true,true,true,false,true,true,true,false,true,false,false,false,false,false,false,false,false,false,false,false] rfl rfl (any_of HT_.out (by kernel_rfl)) (fun _ _ _ h=>h) (Or.inl ⟨by rfl,?_⟩) ?_ ?_
                      rotate_left
                      ·intro w'
                       go_simp
                       with_reducible rfl
                      rotate_left
                      ·simp only [Act.put,aA,aB,aC,i64_w,i32_w]
                       rfl
                      refine pure_ (i:=11) (N:=some 52) (v:=?_) (a':=?_) #[true,true,true,true,true,false,true,true,true,false,true,true,false,false,false,false,false,false,false,false,false,false] rfl rfl (any_of HT_.out (by kernel_rfl)) (fun _ _ _ h=>h) (Or.inl ⟨by rfl,?_⟩) ?_ ?_
                      rotate_left
                      ·intro w'
                       go_simp
                       with_reducible rfl
                      rotate_left
                      ·simp only [Act.put,aA,aB,aC,i64_w,i32_w]
                       rfl
                      refine pure_ (i:=12) (N:=some 53) (v:=?_) (a':=?_) #[true,true,true,true,true,false,true,true,true,false,true,true,true,false,false,false,false,false,false,false,false,false] rfl rfl (any_of HT_.out (by kernel_rfl)) (fun _ _ _ h=>h) (Or.inl ⟨by rfl,?_⟩) ?_ ?_
                      rotate_left
                      ·intro w'
                       go_simp
                       with_reducible rfl
                      rotate_left
                      ·simp only [Act.put,aA,aB,aC,i64_w,i32_w]
                       rfl
                      refine pure_ (i:=16) (N:=some 57) (v:=?_) (a':=?_) #[true,true,true,true,true,false,true,true,true,false,true,true,true,false,false,false,true,false,false,false,false,false] rfl rfl (any_of HT_.out (by kernel_rfl)) (fun _ _ _ h=>h) (Or.inl ⟨by rfl,?_⟩) ?_ ?_
                      rotate_left
                      ·intro w'
                       go_simp
                       with_reducible rfl
                      rotate_left
                      ·simp only [Act.put,aA,aB,aC,i64_w,i32_w]
                       rfl
                      refine take_ (i:=5) (N:=some 46) (v:=?_) (a':=?_) #[true,true,true,true,true,true,true,true,true,false,true,true,true,false,false,false,true,false,false,false,false,false] rfl rfl (take_ofW HT_.out HW_.out (by kernel_rfl)) (fun _ _ _ h=>h) (Or.inl ⟨by rfl,?_⟩) hHeld ?_ ?_
                      rotate_left
                      ·rintro w' ⟨s0,s1,s2,s3⟩
                       go_simp
                       with_reducible rfl
                      rotate_left
                      ·simp only [Act.put,aA,aB,aC,i64_w,i32_w]
                       rfl
                      refine take_ (i:=9) (N:=some 50) (v:=?_) (a':=?_) #[true,true,true,true,true,true,true,true,true,true,true,true,true,false,false,false,true,false,false,false,false,false] rfl rfl (take_ofW HT_.out HW_.out (by kernel_rfl)) (fun _ _ _ h=>h) (Or.inl ⟨by rfl,?_⟩) hHeld ?_ ?_
                      rotate_left
                      ·rintro w' ⟨s0,s1,s2,s3⟩
                       go_simp
                       with_reducible rfl
                      rotate_left
                      ·simp only [Act.put,aA,aB,aC,i64_w,i32_w]
                       rfl
                      refine pure_ (i:=13) (N:=some 54) (v:=?_) (a':=?_) #[true,true,true,true,true,true,true,true,true,true,true,true,true,true,false,false,true,false,false,false,false,false] rfl rfl (any_of HT_.out (by kernel_rfl)) (fun _ _ _ h=>h) (Or.inl ⟨by rfl,?_⟩) ?_ ?_
                      rotate_left
                      ·intro w'
                       go_simp
                       with_reducible rfl
                      rotate_left
                      ·simp only [Act.put,aA,aB,aC,i64_w,i32_w]
                       rfl
                      refine take_ (i:=14) (N:=some 55) (v:=?_) (a':=?_) #[true,true,true,true,true,true,true,true,true,true,true,true,true,true,true,false,true,false,false,false,false,false] rfl rfl (take_ofW HT_.out HW_.out (by kernel_rfl)) (fun _ _ _ h=>h) (Or.inl ⟨by rfl,?_⟩) hHeld ?_ ?_
                      rotate_left
                      ·rintro w' ⟨s0,s1,s2,s3⟩
                       go_simp
                       with_reducible rfl
                      rotate_left
                      ·simp only [Act.put,aA,aB,aC,i64_w,i32_w]
                       rfl
                      refine take_ (i:=15) (N:=some 56) (v:=?_) (a':=?_) #[true,true,true,true,true,true,true,true,true,true,true,true,true,true,true,true,true,false,false,false,false,false] rfl rfl (take_ofW HT_.out HW_.out (by kernel_rfl)) (fun _ _ _ h=>h) (Or.inl ⟨by rfl,?_⟩) hHeld ?_ ?_
                      rotate_left
                      ·rintro w' ⟨s0,s1,s2,s3⟩
                       go_simp
                       with_reducible rfl
                      rotate_left
                      ·simp only [Act.put,aA,aB,aC,i64_w,i32_w]
                       rfl
                      refine one_ (i:=17) (N:=some 58) #[true,true,true,true,true,true,true,true,true,true,true,true,true,true,true,true,true,true,false,false,false,false] rfl rfl (one_of HT_.out (by kernel_rfl)) (by decide) (fun K hK=>?_)
                      first|(refine goes_ Try.func144 (by kernel_rfl) rfl #[.agg #[.slice A107_0 ((rd_T53 l0 x17_1).f0).length c107_0],.int .i64 x10_3] (by rfl) rfl rfl (by (try simp only [aD,aE,aF]);first|done|rfl|(simp only [aG,aH];rfl)) ?_)|(refine call_ 144 #[.agg #[.slice A107_0 ((rd_T53 l0 x17_1).f0).length c107_0],.int .i64 x10_3] (by rfl) rfl (by unfold execOp;simp [resolve,Deferred.ofValue,invoke,Act.eval,enters_ Try.func144 (by kernel_rfl) rfl]) ?_)
                      with_reducible refine (impl_Offer_gain.calls _ _ ((rd_T53 l0 x17_1).f0) x10_3 t119 _ ?side1 ?side2 A32.out).mono ?_
                      (case side1=>repeat (first|exact (Kd.C_below HR107_0.out HB.out)|(with_reducible refine Kd.Ql ?_ _)|(with_reducible refine Kd.Qm ?_ _)|(with_reducible refine Kd.C_drew ?_)))
                      (case side2=>exact HC107_0.out)
                      rintro e w37 ⟨rfl,hb⟩
                      have HS1_:=(hb.cell (aI _ _ (hHeld.2.1))).trans (hHeld.2.1);have HS2_:=(hb.cell (aI _ _ (hHeld.2.2.1))).trans (hHeld.2.2.1);have HS3_:=(hb.cell (aI _ _ (hHeld.2.2.2))).trans (hHeld.2.2.2);refine ⟨_,rfl,?_⟩;have n0_:=aM (Kd.Qw (by (with_reducible repeat (first|apply Kd.Qp|apply Kd.Qo|apply Kd.N_drew));exact HO_5.out) hb);have n1_:=aM (Kd.Qr (by (with_reducible repeat (first|apply Kd.Qf|apply Kd.Qe|apply Kd.R_drew));exact HO_8.out) hb);have n2_:=aM (Kd.V_below (by (with_reducible repeat (first|apply Kd.V_alloc|apply Kd.V_drewN|apply Kd.V_drew));exact HL117_0.out) hb);have n3_:=aM (Qz (g:=gb108) (o:= .cells #[.slice A107_0 ((rd_T53 l0 x17_1).f0).length c107_0] 53 (0,0)) (by (with_reducible repeat (first|apply Qi|apply Qj|apply Qh));exact BK108.out) hb);have n4_:=aM (Kd.C_below (by repeat (first|(with_reducible exact HR117_0.out)|(with_reducible refine Kd.Ql ?_ _)|(with_reducible refine Kd.Qm ?_ _)|(with_reducible refine Kd.C_drew ?_)|exact HR117_0.out)) hb);have n5_:=aM (Qg (by repeat (first|(with_reducible first|exact HB.out|apply Qc|apply Qa|apply Qb|refine Qd ?_ GE108.out)|exact HB.out)) hb);clear HO_5;clear HO_8;clear HL117_0;clear BK108;clear HR117_0;clear HB;have HO_5:=n0_;have HO_8:=n1_;have HL117_0:=n2_;have BK108:=n3_;have HR117_0:=n4_;have HB:=n5_;clear n0_ n1_ n2_ n3_ n4_ n5_;(try clear hb);(try clear hb2);(try clear hk);(try clear hi);have p34:0≤(x29_2:Int):=of_decide_eq_true (by first|(with_reducible assumption)|assumption);have q34:(x29_2:Int)<((x8_3.length:Int):Int):=of_decide_eq_true (by first|(with_reducible assumption)|assumption);obtain ⟨go34,co34,eo34,gb34,gl34,cl34,HG34⟩:=Kd.R_form HO_8.out (by omega)
                      (first|cases eo34|(injection eo34 with ea_ en_ ec_;(first|subst ea_|(injection ea_ with ea_;subst ea_));subst ec_;clear en_))
                      have GB34:=aM gb34;have GG34:=aM HG34;clear gb34 gl34 HG34
                      (first|simp only [add_plain] at hx116_0|skip)
                      obtain ⟨hx34_0,hf34_0⟩:=Kd.R_celln 0 HO_8.out (x29_2:Int) p34 q34;replace p34:=eq_true p34;replace q34:=eq_true q34;have HP38:=Kd.R_putn HO_8.out (x29_2:Int) ji33;rw [←Ny120.out] at HP38;have HQ38:=aM HP38;clear HP38;refine hK.out _ _ ⟨(Qu BK108.out 0).trans rfl,HS1_,HS2_,HS3_⟩ (fun hHeld=>?_);clear hK K;refine norm_ (a':=?_) ?_ ?_
                      rotate_left
                      ·show Act.put _ (some 58) _=_
                       simp only [Act.put,aA,aB,aC,i64_w,i32_w]
                       rfl
                      refine pure_ (i:=18) (N:=some 59) (v:=?_) (a':=?_) #[true,true,true,true,true,true,true,true,true,true,true,true,true,true,true,true,true,true,true,false,false,false] rfl rfl (any_of HT_.out (by kernel_rfl)) (fun _ _ _ h=>h) (Or.inl ⟨by rfl,?_⟩) ?_ ?_
                      rotate_left
                      ·intro w'
                       go_simp
                       with_reducible rfl
                      rotate_left
                      ·simp only [Act.put,aA,aB,aC,i64_w,i32_w]
                       rfl
                      refine pure_ (i:=19) (N:=some 60) (v:=?_) (a':=?_) #[true,true,true,true,true,true,true,true,true,true,true,true,true,true,true,true,true,true,true,true,false,false] rfl rfl (any_of HT_.out (by kernel_rfl)) (fun _ _ _ h=>h) (Or.inl ⟨by rfl,?_⟩) ?_ ?_
                      rotate_left
                      ·intro w'
                       go_simp
                       with_reducible rfl
                      rotate_left
                      ·simp only [Act.put,aA,aB,aC,i64_w,i32_w]
                       rfl
                      refine pure_ (i:=20) (N:=some 61) (v:=?_) (a':=?_) #[true,true,true,true,true,true,true,true,true,true,true,true,true,true,true,true,true,true,true,true,true,false] rfl rfl (any_of HT_.out (by kernel_rfl)) (fun _ _ _ h=>h) (Or.inl ⟨by rfl,?_⟩) ?_ ?_
                      rotate_left
                      ·intro w'
                       go_simp
                       with_reducible rfl
                      rotate_left
                      ·simp only [Act.put,aA,aB,aC,i64_w,i32_w]
                       rfl
                      refine last_ (i:=21) (N:=none) #[true,true,true,true,true,true,true,true,true,true,true,true,true,true,true,true,true,true,true,true,true,true] rfl rfl (one_of HT_.out (by kernel_rfl)) (by decide) (fun K hK=>?_);refine skip_ (w1:=?_) (by rfl) rfl ?_ ?_
                      rotate_left
                      ·go_simp
                       rfl
                      refine hK.out _ _ ?_;clear hK K;refine done_ (done_of HT_.out (by kernel_rfl)) ?_
                      try go_wp2
                      (try simp only [←hl8_3]);go_roundg k3
                      case measure=>have:=HK1.out;have:=HK2.out;have:=HK3.out;omega
                      case rel=>exact ⟨(y120),(wrap64 (x10_3+1)),(by first|rfl|(simp;done)|(simp [*];done)),H',⟨by have:=HK1.out;have:=HK2.out;have:=HK3.out;omega⟩,⟨by (try simp only [hl8_2]);(try simp only [hl8_3]);(with_reducible repeat (first|apply Kd.Qp|apply Kd.Qo|apply Kd.N_drew));exact Kd.N_mono (Kd.N_far (p:=⟨go34,(x29_2:Int).toNat,none⟩) (Kd.N_mono HO_5.out (fun k_ hk=>(⟨hk,fun e_=>hk.2.1 (by rw [e_];rfl)⟩:_∧k_≠go34))) (fun _ hk=>hk.2) (.int .i64 ji33)) (fun _ hk=>⟨hk.1.1,⟨hk.1.2.1,hk.1.2.2⟩⟩)⟩,⟨by (try simp only [hl8_2]);(try simp only [hl8_3]);(with_reducible repeat (first|apply Kd.Qf|apply Kd.Qe|apply Kd.R_drew));exact HQ38.out⟩,⟨by (try simp only [hl8_2]);(try simp only [hl8_3]);(with_reducible repeat (first|apply Qi|apply Qj|apply Qh));refine blk_far ?_ (by have h_:=Kd.R_ne HO_8.out BK108.out (by decide);intro e_;exact h_ (by rw [e_];rfl)) _;(with_reducible repeat (first|apply Qi|apply Qj|apply Qh));exact BK108.out⟩,⟨by repeat (first|(with_reducible first|exact HB.out|apply Qc|apply Qa|apply Qb|refine Qd ?_ GB34.out|refine Qd ?_ GE108.out)|exact HB.out)⟩⟩
                     ·rw [if_neg c31] at H;exact absurd H (by simp)
                    ·rw [if_neg c30] at H;exact absurd H (by simp)
                   ·rw [if_neg c28] at H;exact absurd H (by simp)
                  ·rw [if_neg c27] at H;exact absurd H (by simp)
                 ·rw [if_neg c26] at H;exact absurd H (by simp)
                ·rw [if_neg c25] at H;exact absurd H (by simp)
               ·rw [if_neg c24] at H;have c24b0:decide (x10_3≤(ji23))=false:=decide_eq_false c24;clear c24;have H':=aM H;clear H;have hcz39_0:wr.cell? ⟨gb108,0,none⟩=some (.slice A107_0 ((rd_T53 l0 x17_1).f0).length c107_0):=(Qu BK108.out 0).trans rfl;have hfz39_0:=Qs BK108.out 0;go_wp2;(try simp only [←hl8_2,←hl8_3]);go_roundg k3
                case measure=>have:=HK1.out;have:=HK2.out;have:=HK3.out;omega
                case rel=>exact ⟨(x8_3),(wrap64 (x29_2+1)),(by first|rfl|(simp;done)|(simp [*];done)),H',⟨by have:=HK1.out;have:=HK2.out;have:=HK3.out;omega⟩,⟨by (try simp only [hl8_2]);(try simp only [hl8_3]);(with_reducible repeat (first|apply Kd.Qp|apply Kd.Qo|apply Kd.N_drew));exact HO_5.out⟩,⟨by (try simp only [hl8_2]);(try simp only [hl8_3]);(with_reducible repeat (first|apply Kd.Qf|apply Kd.Qe|apply Kd.R_drew));exact HO_8.out⟩,⟨by (try simp only [hl8_2]);(try simp only [hl8_3]);(with_reducible repeat (first|apply Qi|apply Qj|apply Qh));exact BK108.out⟩,⟨by repeat (first|(with_reducible first|exact HB.out|apply Qc|apply Qa|apply Qb|refine Qd ?_ GE108.out)|exact HB.out)⟩⟩
            ·rw [if_neg c22] at H;have c22b0:decide (x29_2<(t110.length:Int))=false:=decide_eq_false c22;have c22b0l:=c22b0;(try simp only [hl8_2] at c22b0l);clear c22;by_cases c40:x5_1.length<5864062014805
             ·rw [if_pos c40] at H;have LMc40:=aM c40;clear c40;obtain ⟨y113,hy113⟩:∃ y_:List (List Int),y_=(x5_1 ++ [x8_2]):=⟨_,rfl⟩;replace H:(impl_tables.l0 k2 y113 l0 (l0.length:Int) (wrap64 (x17_1+1)))=some r:=by first|(rw [hy113];with_reducible exact H)|(have H2_:=(Option.bind_some _ _).symm.trans H;rw [hy113];with_reducible exact H2_)|(have H2_:=(Option.bind_some _ _).symm.trans H;with_reducible exact H2_)|with_reducible exact H|(rw [hy113];exact H)|exact H
              have Ny113:=aM hy113;clear hy113;have H':=aM H;clear H;go_wp2_with (first|((with_reducible refine gate_builtin (b:= .append) (xs:=#[.tmp 63,.tmp 65]) rfl ?_);at_builtin;refine Kd.N_append (Kd.slice 3 (Kd.int .i64)) (w0:=w) w.heap.size rfl (.tmp 63) (.tmp 65) 28 23 (.slice none 0 0) 24 rfl Try.underlying28 info23 rfl (by decide) (by omega) (.slice (some ad109) x5_1.length co19) x5_1 x8_2 [.slice Ao21 x8_2.length co21] (fun k_=>(w.heap.size≤k_)∧k_≠gb108) (fun k_=>((fun k_=>(w.heap.size≤k_)∧k_≠gb108)) k_∧some k_≠(.slice (some ad109) x5_1.length co19:Value).ownBlock) rfl rfl ?aP (fun _ hk=>hk) ?aF ?aO ?aB ?aS ?aL ?_;(case aP=>exact (Kd.FK_slice_mk (Kd.Qn (Kd.R_mono (ok':=(fun k_=>((fun k_=>(w.heap.size≤k_)∧k_≠gb108)) k_∧some k_≠(.slice (some ad109) x5_1.length co19:Value).ownBlock)) (Kd.Qv (Kd.R_apart' (HO_8.out) (Kd.N_typed HO_5.out) (by decide)) BK108.out (by decide)) (fun k_ hk=>⟨⟨hk.1.1,hk.2⟩,hk.1.2⟩))).2.1 (Kd.R_F (Kd.R_mono (ok':=(fun k_=>((fun k_=>(w.heap.size≤k_)∧k_≠gb108)) k_∧some k_≠(.slice (some ad109) x5_1.length co19:Value).ownBlock)) (Kd.Qv (Kd.R_apart' (HO_8.out) (Kd.N_typed HO_5.out) (by decide)) BK108.out (by decide)) (fun k_ hk=>⟨⟨hk.1.1,hk.2⟩,hk.1.2⟩)))));(case aB=>exact (by repeat (first|(with_reducible first|exact HB.out|apply Qc|apply Qa|apply Qb|refine Qd ?_ GE108.out)|exact HB.out)));(case aF=>exact (fun k_ hk=>⟨(Nat.le_trans (Qk (by repeat (first|(with_reducible first|exact HB.out|apply Qc|apply Qa|apply Qb|refine Qd ?_ GE108.out)|exact HB.out))) hk),Kd.freshB (g:=gb108) (o:= .cells #[.slice A107_0 ((rd_T53 l0 x17_1).f0).length c107_0] 53 (0,0)) (by (with_reducible repeat (first|apply Qi|apply Qj|apply Qh));exact BK108.out) k_ hk⟩));(case aO=>exact (by (with_reducible repeat (first|apply Kd.Qp|apply Kd.Qo|apply Kd.N_drew));exact Kd.N_mono HO_5.out (fun _ hk=>⟨hk.1,hk.2.2⟩)));(case aS=>exact (Qk (by repeat (first|(with_reducible first|exact HB.out|apply Qc|apply Qa|apply Qb|refine Qd ?_ GE108.out)|exact HB.out))));(case aL=>have:=LMc40.out;omega);intro v114 w41 ho hb hg hat;rw [←Ny113.out] at ho;have n0_:=aM (blk_grown (g:=gb108) (o:= .cells #[.slice A107_0 ((rd_T53 l0 x17_1).f0).length c107_0] 53 (0,0)) (by (with_reducible repeat (first|apply Qi|apply Qj|apply Qh));exact BK108.out) hg (Kd.N_ne HO_5.out BK108.out (by decide)));have n1_:=aM (hb);have n2_:=aM (ho);clear BK108;clear HB;clear HO_5;clear HO_8;have BK108:=n0_;have HB:=n1_;have HO115:=n2_;clear n0_ n1_ n2_;clear ho hb hg hat))
              (try simp only [←hl8_2]);go_roundg k2
              case measure=>have:=HK1.out;have:=HK2.out;omega
              case rel=>exact ⟨(y113),(wrap64 (x17_1+1)),(by first|rfl|(simp;done)|(simp [*];done)),H',⟨by have:=HK1.out;have:=HK2.out;omega⟩,⟨by (try simp only [hl8_2]);(with_reducible repeat (first|apply Kd.Qp|apply Kd.Qo|apply Kd.N_drew));exact Kd.N_mono HO115.out (fun _ hk=>hk.1)⟩,⟨by repeat (first|(with_reducible first|exact HB.out|apply Qc|apply Qa|apply Qb|refine Qd ?_ GE108.out)|exact HB.out)⟩⟩
             ·rw [if_neg c40] at H;exact absurd H (by simp)
         ·rw [if_neg c14] at H;exact absurd H (by simp)
        ·rw [if_neg c13] at H;exact absurd H (by simp)
       ·rw [if_neg c12] at H;exact absurd H (by simp)
      ·rw [if_neg c11] at H;have c11b0:decide (x17_1<(l0.length:Int))=false:=decide_eq_false c11;clear c11;obtain rfl:=Option.some.inj H;go_wp2
       go_ret
       exact ⟨_,by first|rfl|(simp [errW_none,errW_some] <;> rfl)|(simp only [←hji3];first|rfl|(simp [errW_none,errW_some] <;> rfl))|(simp [*,errW_none,errW_some] <;> rfl),by (with_reducible repeat (first|apply Kd.Qp|apply Kd.Qo|apply Kd.N_drew));exact HO_5.out,by repeat (first|(with_reducible first|exact HB.out|apply Qc|apply Qa|apply Qb)|exact HB.out)⟩
   ·rw [if_neg c5] at H;exact absurd H (by simp)
  ·rw [if_neg c4] at H;exact absurd H (by simp)

mutual
def impl_BestChoice.l0:Nat→List (S53)→Int→List (List Int)→List Int→Int→Int→Option (List Int×Int×Bool)
  |0,_,_,_,_,_,_=>none
  |k+1,x0,x1,x7,x8,x9,x10=>if x10 ≥ 0 then (impl_BestChoice.l1 k x0 x1 x7 x8 x9 x10 0) else (if 0≤(x0.length:Int) then (if (x0.length:Int)<(x7.length:Int) then (if 0≤x1 then (if x1<((rd_L2 x7 (x0.length:Int)).length:Int) then (some (x8,rd (rd_L2 x7 (x0.length:Int)) x1,true)) else (none)) else (none)) else (none)) else (none))
def impl_BestChoice.l1:Nat→List (S53)→Int→List (List Int)→List Int→Int→Int→Int→Option (List Int×Int×Bool)
  |0,_,_,_,_,_,_,_=>none
  |k+1,x0,x1,x7,x8,x9,x10,x11=>if 0≤x10 then (if x10<(x7.length:Int) then (if 0≤(wrap64 (x9 - x11)) then (if (wrap64 (x9 - x11))<((rd_L2 x7 x10).length:Int) then (if x10<(x0.length:Int) then ((impl_Offer_gain.f ((rd_T53 x0 x10).f0) x11).bind fun t113=>(if 0≤(wrap64 (x10+1)) then (if (wrap64 (x10+1))<(x7.length:Int) then (if 0≤x9 then (if x9<((rd_L2 x7 (wrap64 (x10+1))).length:Int) then (if (wrap64 ((rd (rd_L2 x7 x10) (wrap64 (x9 - x11)))+t113))=(rd (rd_L2 x7 (wrap64 (x10+1))) x9) then (if x10<(x8.length:Int) then (impl_BestChoice.l0 k x0 x1 x7 (x8.set (x10:Int).toNat x11) (wrap64 (x9 - x11)) (wrap64 (x10 - 1))) else (none)) else (impl_BestChoice.l1 k x0 x1 x7 x8 x9 x10 (wrap64 (x11+1)))) else (none)) else (none)) else (none)) else (none))) else (none)) else (none)) else (none)) else (none)) else (none)
end
def impl_BestChoice.f (k:Nat) (l0:List (S53)) (a1:Int):Option (List Int×Int×Bool):=(impl_isOffered.f k l0 a1).bind fun t101=>(if t101=true then ((impl_tables.f k l0 a1).bind fun t102=>(if 0≤(l0.length:Int) then (if ((l0.length:Int):Int).toNat≤35184372088832 then (impl_BestChoice.l0 k l0 a1 t102 (List.replicate ((l0.length:Int):Int).toNat 0) a1 (wrap64 ((l0.length:Int) - 1))) else (none)) else (none))) else (some (([]:List Int),0,false)))
def impl_BestChoice.T3:Bool×List (List Nat×List Nat):=(true,[([],[]),([],[]),([0,1],[0,1]),([],[]),([3],[3]),([4,4],[4]),([],[]),([2,2,0,1,2],[2]),([5,7,0,1,2,3,4,5,7],[5]),([6,8,0,1,2,3,4,5,6,7,8],[6])])
def impl_BestChoice.B3:List Nat:=[0,0,3,0,8,24,0,7,191,511]
theorem impl_BestChoice.tab3:rtab .any (opsOf Try.f40 3)=impl_BestChoice.T3:=by kernel_rfl
theorem impl_BestChoice.bits3:waitsOk impl_BestChoice.T3.2 impl_BestChoice.B3=true:=by kernel_rfl
def impl_BestChoice.T8:Bool×List (List Nat×List Nat):=(true,[([],[]),([],[]),([0,1],[0,1]),([2],[2]),([],[]),([],[]),([4,5],[4,5]),([3,6],[3,6]),([7],[7]),([],[]),([],[]),([9,10],[9,10]),([11],[11]),([],[]),([12,13],[12,13]),([8,14],[8,14]),([],[]),([],[]),([17],[17]),([16,18],[16,18]),([19],[19]),([],[]),([20,21],[20,21]),([22],[22]),([15,23],[15,23])])
def impl_BestChoice.B8:List Nat:=[0,0,3,7,0,0,48,127,255,0,0,1536,3584,0,15872,32767,0,0,131072,458752,983040,0,4128768,8323072,16777215]
theorem impl_BestChoice.tab8:rtab .any (opsOf Try.f40 8)=impl_BestChoice.T8:=by kernel_rfl
theorem impl_BestChoice.bits8:waitsOk impl_BestChoice.T8.2 impl_BestChoice.B8=true:=by kernel_rfl
def impl_BestChoice.T12:Bool×List (List Nat×List Nat):=(true,[([],[]),([],[]),([],[]),([2],[2]),([1,3],[1,3]),([4],[4]),([],[]),([5,6],[5,6]),([7],[7]),([0,0],[0]),([8,9,0,1,2,3,4,5,6,7,8,9],[8]),([10,0,1,2,3,4,5,6,7,8,9,10],[])])
def impl_BestChoice.B12:List Nat:=[0,0,0,4,14,30,0,126,254,1,1023,2047]
theorem impl_BestChoice.tab12:rtab .any (opsOf Try.f40 12)=impl_BestChoice.T12:=by kernel_rfl
theorem impl_BestChoice.bits12:waitsOk impl_BestChoice.T12.2 impl_BestChoice.B12=true:=by kernel_rfl
set_option maxHeartbeats 8000000 in
set_option maxRecDepth 100000 in
theorem impl_BestChoice.calls (k:Nat) (A0:Option Addr) (c0:Nat) (l0:List (S53)) (a1:Int) (r1:List Int) (r2:Int) (r3:Bool) (w:World) (hr0:Kd.C k53 w A0 l0.length l0) (hc0:l0.length≤c0) (h:impl_BestChoice.f k l0 a1=some (r1,r2,r3)) :
    Calls Try.prog 40 #[.slice A0 l0.length c0,.int .i64 a1] w fun e w'=>∃ v0_:Value,e= .returned (.tuple #[v0_,.int .i64 r2,.bool r3])∧Kd.R (Kd.int .i64) 3 w' w.heap.size (fun _=>True) v0_ r1∧Below w.heap.size w w':=by
  have hu53:=Try.underlying53;have HR0:=aM hr0;have HC0:=aM hc0;clear hr0 hc0;have HB:=aM (Below.refl w.heap.size w);have H:((impl_isOffered.f k l0 a1).bind fun t101=>(if t101=true then ((impl_tables.f k l0 a1).bind fun t102=>(if 0≤(l0.length:Int) then (if ((l0.length:Int):Int).toNat≤35184372088832 then (impl_BestChoice.l0 k l0 a1 t102 (List.replicate ((l0.length:Int):Int).toNat 0) a1 (wrap64 ((l0.length:Int) - 1))) else (none)) else (none))) else (some (([]:List Int),0,false))))=some (r1,r2,r3):=h;clear h;replace H:=Option.bind_eq_some_iff.mp H;obtain ⟨t101,A30,H⟩:=H;replace H:(if t101=true then ((impl_tables.f k l0 a1).bind fun t102=>(if 0≤(l0.length:Int) then (if ((l0.length:Int):Int).toNat≤35184372088832 then (impl_BestChoice.l0 k l0 a1 t102 (List.replicate ((l0.length:Int):Int).toNat 0) a1 (wrap64 ((l0.length:Int) - 1))) else (none)) else (none))) else (some (([]:List Int),0,false)))=some (r1,r2,r3):=H;have A3:=aM A30;clear A30;by_cases c4:t101=true
  ·subst c4;have H1:((impl_tables.f k l0 a1).bind fun t102=>(if 0≤(l0.length:Int) then (if ((l0.length:Int):Int).toNat≤35184372088832 then (impl_BestChoice.l0 k l0 a1 t102 (List.replicate ((l0.length:Int):Int).toNat 0) a1 (wrap64 ((l0.length:Int) - 1))) else (none)) else (none)))=some (r1,r2,r3):=by rw [if_pos rfl] at H;exact H
   clear H;have H:=H1;clear H1;replace H:=Option.bind_eq_some_iff.mp H;obtain ⟨t102,A50,H⟩:=H;replace H:(if 0≤(l0.length:Int) then (if ((l0.length:Int):Int).toNat≤35184372088832 then (impl_BestChoice.l0 k l0 a1 t102 (List.replicate ((l0.length:Int):Int).toNat 0) a1 (wrap64 ((l0.length:Int) - 1))) else (none)) else (none))=some (r1,r2,r3):=H;have A5:=aM A50;clear A50;by_cases c6:0≤(l0.length:Int)
   ·rw [if_pos c6] at H;have c6b0:=eq_true c6;have c6b1:decide (0≤(l0.length:Int))=true:=decide_eq_true c6;clear c6;by_cases c7:((l0.length:Int):Int).toNat≤35184372088832
    ·rw [if_pos c7] at H;have c7b0:=eq_true c7;have c7b1:decide (((l0.length:Int):Int).toNat≤35184372088832)=true:=decide_eq_true c7;clear c7;obtain ⟨y105,hy105⟩:∃ y_:List Int,y_=(List.replicate ((l0.length:Int):Int).toNat 0):=⟨_,rfl⟩;replace H:(impl_BestChoice.l0 k l0 a1 t102 y105 a1 (wrap64 ((l0.length:Int) - 1)))=some (r1,r2,r3):=by first|(rw [hy105];with_reducible exact H)|(have H2_:=(Option.bind_some _ _).symm.trans H;rw [hy105];with_reducible exact H2_)|(have H2_:=(Option.bind_some _ _).symm.trans H;with_reducible exact H2_)|with_reducible exact H|(rw [hy105];exact H)|exact H
     have Ny105:=aM hy105;clear hy105;have H':=aM H;clear H;go_enter Try.func40,Try.ntmps40
     try go_wp2_with (first|((with_reducible refine Qt (f:=140) rfl ?_);refine goesL_ (some 14) rfl rfl Try.func140 (by kernel_rfl) rfl #[.slice A0 l0.length c0,.int .i64 a1] rfl (by (try simp only [aD,aE,aF]);first|done|rfl|(simp only [aG,aH];rfl)) ?_;(with_reducible refine (impl_isOffered.calls k _ _ l0 a1 true _ ?side1 ?side2 A3.out).mono ?_);(case side1=>repeat (first|exact HR0.out|(with_reducible refine Kd.Ql ?_ _)|(with_reducible refine Kd.Qm ?_ _)|(with_reducible refine Kd.C_drew ?_)));(case side2=>exact HC0.out);rintro e w8 ⟨rfl,hb⟩;refine ⟨_,rfl,?_⟩;have n0_:=aM (Qg (by repeat (first|(with_reducible first|exact HB.out|apply Qc|apply Qa|apply Qb)|exact HB.out)) hb);clear HB;have HB:=n0_;clear n0_;(try clear hb);(try clear hb2);(try clear hk);(try clear hi)))
     have n0_:=aM (Qb HB.out);clear HB;have HB:=n0_;clear n0_;refine start_ (n:=10) (S:=fun w'=>True) (ds:=[]) #[false,false,false,false,false,false,false,false,false,false] (by kernel_rfl) rfl rfl trivial (fun hHeld=>?_);refine with_tabW impl_BestChoice.tab3 impl_BestChoice.bits3 (fun HT_ HW_=>?_)
     generalize w8.drew=w9 at HB hHeld ⊢
     refine pure_ (i:=0) (N:=some 16) (v:=?_) (a':=?_) #[true,false,false,false,false,false,false,false,false,false] rfl rfl (any_of HT_.out (by kernel_rfl)) (fun _ _ _ h=>h) (Or.inl ⟨by rfl,?_⟩) ?_ ?_
     rotate_left
     ·intro w'
      go_simp
      with_reducible rfl
     rotate_left
     ·simp only [Act.put,aA,aB,aC,i64_w,i32_w]
      rfl
     refine pure_ (i:=1) (N:=some 17) (v:=?_) (a':=?_) #[true,true,false,false,false,false,false,false,false,false] rfl rfl (any_of HT_.out (by kernel_rfl)) (fun _ _ _ h=>h) (Or.inl ⟨by rfl,?_⟩) ?_ ?_
     rotate_left
     ·intro w'
      go_simp
      with_reducible rfl
     rotate_left
     ·simp only [Act.put,aA,aB,aC,i64_w,i32_w]
      rfl
     refine pure_ (i:=3) (N:=some 19) (v:=?_) (a':=?_) #[true,true,false,true,false,false,false,false,false,false] rfl rfl (any_of HT_.out (by kernel_rfl)) (fun _ _ _ h=>h) (Or.inl ⟨by rfl,?_⟩) ?_ ?_
     rotate_left
     ·intro w'
      go_simp
      with_reducible rfl
     rotate_left
     ·simp only [Act.put,aA,aB,aC,i64_w,i32_w]
      rfl
     refine pure_ (i:=4) (N:=some 20) (v:=?_) (a':=?_) #[true,true,false,true,true,false,false,false,false,false] rfl rfl (any_of HT_.out (by kernel_rfl)) (fun _ _ _ h=>h) (Or.inl ⟨by rfl,?_⟩) ?_ ?_
     rotate_left
     ·intro w'
      go_simp
      with_reducible rfl
     rotate_left
     ·simp only [Act.put,aA,aB,aC,i64_w,i32_w]
      rfl
     refine pure_ (i:=6) (N:=some 22) (v:=?_) (a':=?_) #[true,true,false,true,true,false,true,false,false,false] rfl rfl (any_of HT_.out (by kernel_rfl)) (fun _ _ _ h=>h) (Or.inl ⟨by rfl,?_⟩) ?_ ?_
     rotate_left
     ·intro w'
      go_simp
      with_reducible rfl
     rotate_left
     ·simp only [Act.put,aA,aB,aC,i64_w,i32_w]
      rfl
     refine join_ (σ:=Value×Value) 2 #[true,true,true,true,true,true,true,true,false,false] (fun s_=>[(18,s_.1),(21,s_.2),(7,s_.1)]) (fun s_ w'=>(Kd.N (Kd.slice 3 (Kd.int .i64)) 23 w' w.heap.size (fun k_=>some k_≠(s_.2:Value).ownBlock) s_.1 t102)∧(Kd.R (Kd.int .i64) 3 w' w.heap.size (fun _=>True) s_.2 y105)∧(Below w.heap.size w w')) ?_ ?_
     rotate_left
     ·intro hCont;refine two_ (i:=2) (j:=5) (Ni:=some 18) (Nj:=some 21) #[true,true,true,true,true,false,true,false,false,false] #[true,true,false,true,true,true,true,false,false,false] rfl rfl rfl rfl (two_of HT_.out (by kernel_rfl)) (by decide) (by decide) (fun K hK=>?_) (fun K hK=>?_)
      ·skip
       first|(refine goes_ Try.func141 (by kernel_rfl) rfl #[.slice A0 l0.length c0,.int .i64 a1] (by rfl) rfl rfl (by (try simp only [aD,aE,aF]);first|done|rfl|(simp only [aG,aH];rfl)) ?_)|(refine call_ 141 #[.slice A0 l0.length c0,.int .i64 a1] (by rfl) rfl (by unfold execOp;simp [resolve,Deferred.ofValue,invoke,Act.eval,enters_ Try.func141 (by kernel_rfl) rfl]) ?_)
       with_reducible refine (impl_tables.calls k _ _ l0 a1 t102 _ ?side1 ?side2 A5.out).mono ?_
       (case side1=>repeat (first|exact (Kd.C_below HR0.out HB.out)|(with_reducible refine Kd.Ql ?_ _)|(with_reducible refine Kd.Qm ?_ _)|(with_reducible refine Kd.C_drew ?_)))
       (case side2=>exact HC0.out)
       rintro e w10 ⟨v103,rfl,ho0,hb⟩
       refine ⟨_,rfl,?_⟩;have n0_:=aM (Kd.N_lower (Kd.N_mono (ok':=fun k_=>True) ho0 (fun k_ hk_=>trivial)) (Qk (by repeat (first|(with_reducible first|exact HB.out|apply Qc|apply Qa|apply Qb)|exact HB.out))));have n1_:=aM (Qg (by repeat (first|(with_reducible first|exact HB.out|apply Qc|apply Qa|apply Qb)|exact HB.out)) hb);clear HB;have HO104:=n0_;have HB:=n1_;clear n0_ n1_;(try clear hb);(try clear hb2);(try clear hk);(try clear hi);(try clear ho0);refine hK.out _ _ trivial (fun hHeld=>?_);clear hK K;refine norm_ (a':=?_) ?_ ?_
       rotate_left
       ·show Act.put _ (some 18) _=_
        simp only [Act.put,aA,aB,aC,i64_w,i32_w]
        rfl
       refine pure_ (i:=7) (N:=some 7) (v:=?_) (a':=?_) #[true,true,true,true,true,false,true,true,false,false] rfl rfl (any_of HT_.out (by kernel_rfl)) (fun _ _ _ h=>h) (Or.inl ⟨by rfl,?_⟩) ?_ ?_
       rotate_left
       ·intro w'
        go_simp
        with_reducible rfl
       rotate_left
       ·simp only [Act.put,aA,aB,aC,i64_w,i32_w]
        rfl
       refine one_ (i:=5) (N:=some 21) #[true,true,true,true,true,true,true,true,false,false] rfl rfl (one_of HT_.out (by kernel_rfl)) (by decide) (fun K hK=>?_);refine Kd.R_make_step (Kd.int .i64) _ 3 (by rfl) (N:=21) rfl 23 _ _ rfl (l0.length:Int) rfl rfl Try.underlying23 (.int .i64 0) 8 info3 rfl (by decide) (by omega) 0 (ok:=fun _=>True) (okp:=fun _=>True) rfl (fun _ hk=>hk) trivial (of_decide_eq_true (by first|(with_reducible assumption)|assumption)) (Nat.le_trans (Nat.mul_le_mul_right _ (of_decide_eq_true (by first|(with_reducible assumption)|assumption):(l0.length:Int).toNat≤35184372088832)) (by omega)) (Below.refl _ _) (Nat.le_refl _) ?_;intro v106 w11 ho12 hb hg_ hnew_;clear hg_ hnew_
       (first|rw [←Ny105.out] at ho12|(simp only [Int.reduceToNat] at ho12;rw [←Ny105.out] at ho12))
       have n0_:=aM (Kd.N_elder' (by (with_reducible repeat (first|apply Kd.Qp|apply Kd.Qo|apply Kd.N_drew));exact HO104.out) (Kd.R_base ho12) hb);have n1_:=aM (Kd.R_lower ho12 (Qk (by repeat (first|(with_reducible first|exact HB.out|apply Qc|apply Qa|apply Qb)|exact HB.out))));have n2_:=aM (Qg (by repeat (first|(with_reducible first|exact HB.out|apply Qc|apply Qa|apply Qb)|exact HB.out)) hb);clear HO104;clear HB;have HO104:=n0_;have HO107:=n1_;have HB:=n2_;clear n0_ n1_ n2_;clear hb ho12;refine hK.out _ _ trivial (fun hHeld=>?_);clear hK K;refine norm_ (a':=?_) ?_ ?_
       rotate_left
       ·show Act.put _ (some 21) _=_
        simp only [Act.put,aA,aB,aC,i64_w,i32_w]
        rfl
       exact norm_ (by simp only [putAll,Act.put,aA,aB,aC]) (hCont (v103,v106) _ ⟨(by (with_reducible repeat (first|apply Kd.Qp|apply Kd.Qo|apply Kd.N_drew));exact Kd.N_mono HO104.out (fun _ hk=>hk.2)),(by (with_reducible repeat (first|apply Kd.Qf|apply Kd.Qe|apply Kd.R_drew));exact HO107.out),(by repeat (first|(with_reducible first|exact HB.out|apply Qc|apply Qa|apply Qb)|exact HB.out))⟩)
      ·skip
       refine Kd.R_make_step (Kd.int .i64) _ 3 (by rfl) (N:=21) rfl 23 _ _ rfl (l0.length:Int) rfl rfl Try.underlying23 (.int .i64 0) 8 info3 rfl (by decide) (by omega) 0 (ok:=fun _=>True) (okp:=fun _=>True) rfl (fun _ hk=>hk) trivial (of_decide_eq_true (by first|(with_reducible assumption)|assumption)) (Nat.le_trans (Nat.mul_le_mul_right _ (of_decide_eq_true (by first|(with_reducible assumption)|assumption):(l0.length:Int).toNat≤35184372088832)) (by omega)) (Below.refl _ _) (Nat.le_refl _) ?_;intro v106 w10 ho11 hb hg_ hnew_;clear hg_ hnew_
       (first|rw [←Ny105.out] at ho11|(simp only [Int.reduceToNat] at ho11;rw [←Ny105.out] at ho11))
       have n0_:=aM (Kd.R_lower ho11 (Qk (by repeat (first|(with_reducible first|exact HB.out|apply Qc|apply Qa|apply Qb)|exact HB.out))));have n1_:=aM (Qg (by repeat (first|(with_reducible first|exact HB.out|apply Qc|apply Qa|apply Qb)|exact HB.out)) hb);clear HB;have HO107:=n0_;have HB:=n1_;clear n0_ n1_;clear hb ho11;refine hK.out _ _ trivial (fun hHeld=>?_);clear hK K;refine norm_ (a':=?_) ?_ ?_
       rotate_left
       ·show Act.put _ (some 21) _=_
        simp only [Act.put,aA,aB,aC,i64_w,i32_w]
        rfl
       refine one_ (i:=2) (N:=some 18) #[true,true,true,true,true,true,true,false,false,false] rfl rfl (one_of HT_.out (by kernel_rfl)) (by decide) (fun K hK=>?_)
       first|(refine goes_ Try.func141 (by kernel_rfl) rfl #[.slice A0 l0.length c0,.int .i64 a1] (by rfl) rfl rfl (by (try simp only [aD,aE,aF]);first|done|rfl|(simp only [aG,aH];rfl)) ?_)|(refine call_ 141 #[.slice A0 l0.length c0,.int .i64 a1] (by rfl) rfl (by unfold execOp;simp [resolve,Deferred.ofValue,invoke,Act.eval,enters_ Try.func141 (by kernel_rfl) rfl]) ?_)
       with_reducible refine (impl_tables.calls k _ _ l0 a1 t102 _ ?side1 ?side2 A5.out).mono ?_
       (case side1=>repeat (first|exact (Kd.C_below HR0.out HB.out)|(with_reducible refine Kd.Ql ?_ _)|(with_reducible refine Kd.Qm ?_ _)|(with_reducible refine Kd.C_drew ?_)))
       (case side2=>exact HC0.out)
       rintro e w12 ⟨v103,rfl,ho0,hb⟩
       refine ⟨_,rfl,?_⟩;have n0_:=aM (Kd.Qr (by (with_reducible repeat (first|apply Kd.Qf|apply Kd.Qe|apply Kd.R_drew));exact HO107.out) hb);have n1_:=aM (Kd.N_lower (Kd.N_mono (ok':=fun k_=>some k_≠(v106:Value).ownBlock) ho0 (fun k_ hk_=>(Kd.fresh' (Kd.R_lt (by (with_reducible repeat (first|apply Kd.Qf|apply Kd.Qe|apply Kd.R_drew));exact HO107.out)) k_ hk_))) (Qk (by repeat (first|(with_reducible first|exact HB.out|apply Qc|apply Qa|apply Qb)|exact HB.out))));have n2_:=aM (Qg (by repeat (first|(with_reducible first|exact HB.out|apply Qc|apply Qa|apply Qb)|exact HB.out)) hb);clear HO107;clear HB;have HO107:=n0_;have HO104:=n1_;have HB:=n2_;clear n0_ n1_ n2_;(try clear hb);(try clear hb2);(try clear hk);(try clear hi);(try clear ho0);refine hK.out _ _ trivial (fun hHeld=>?_);clear hK K;refine norm_ (a':=?_) ?_ ?_
       rotate_left
       ·show Act.put _ (some 18) _=_
        simp only [Act.put,aA,aB,aC,i64_w,i32_w]
        rfl
       refine pure_ (i:=7) (N:=some 7) (v:=?_) (a':=?_) #[true,true,true,true,true,true,true,true,false,false] rfl rfl (any_of HT_.out (by kernel_rfl)) (fun _ _ _ h=>h) (Or.inl ⟨by rfl,?_⟩) ?_ ?_
       rotate_left
       ·intro w'
        go_simp
        with_reducible rfl
       rotate_left
       ·simp only [Act.put,aA,aB,aC,i64_w,i32_w]
        rfl
       exact norm_ (by simp only [putAll,Act.put,aA,aB,aC]) (hCont (v103,v106) _ ⟨(by (with_reducible repeat (first|apply Kd.Qp|apply Kd.Qo|apply Kd.N_drew));exact HO104.out),(by (with_reducible repeat (first|apply Kd.Qf|apply Kd.Qe|apply Kd.R_drew));exact HO107.out),(by repeat (first|(with_reducible first|exact HB.out|apply Qc|apply Qa|apply Qb)|exact HB.out))⟩)
     rintro ⟨v103,v106⟩ w13 ⟨h0_,h1_,h2_⟩
     have n0_:Aside0 (Kd.N (Kd.slice 3 (Kd.int .i64)) 23 w13 w.heap.size (fun k_=>some k_≠(v106:Value).ownBlock) v103 t102):=⟨h0_⟩;have n1_:Aside0 (Kd.R (Kd.int .i64) 3 w13 w.heap.size (fun _=>True) v106 y105):=⟨h1_⟩;have n2_:Aside0 (Below w.heap.size w w13):=⟨h2_⟩;clear HB;clear h0_ h1_ h2_;have HO104:=n0_;have HO107:=n1_;have HB:=n2_;clear n0_ n1_ n2_;have hHeld:=trivial;refine norm_ (a':=?_) ?_ ?_
     rotate_left
     ·simp only [putAll,Act.put,aA,aB,aC]
      rfl
     refine pure_ (i:=8) (N:=some 8) (v:=?_) (a':=?_) #[true,true,true,true,true,true,true,true,true,false] rfl rfl (any_of HT_.out (by kernel_rfl)) (fun _ _ _ h=>h) (Or.inl ⟨by rfl,?_⟩) ?_ ?_
     rotate_left
     ·intro w'
      go_simp
      with_reducible rfl
     rotate_left
     ·simp only [Act.put,aA,aB,aC,i64_w,i32_w]
      rfl
     refine pure_ (i:=9) (N:=some 9) (v:=?_) (a':=?_) #[true,true,true,true,true,true,true,true,true,true] rfl rfl (any_of HT_.out (by kernel_rfl)) (fun _ _ _ h=>h) (Or.inl ⟨by rfl,?_⟩) ?_ ?_
     rotate_left
     ·intro w'
      go_simp
      with_reducible rfl
     rotate_left
     ·simp only [Act.put,aA,aB,aC,i64_w,i32_w]
      rfl
     refine done_ (done_of HT_.out (by kernel_rfl)) ?_
     try go_wp2
     go_loopg [9,10] k (fun kq v9 v10 w'=>∃ (x8_1:List Int) (x9_1:Int) (x10_1:Int),v9= .int .i64 x9_1∧v10= .int .i64 x10_1∧Aside0 (impl_BestChoice.l0 kq l0 a1 t102 x8_1 x9_1 x10_1=some (r1,r2,r3))∧Aside0 (kq≤k)∧Aside0 (Kd.N (Kd.slice 3 (Kd.int .i64)) 23 w' w.heap.size (fun k_=>some k_≠(v106:Value).ownBlock) v103 t102)∧Aside0 (Kd.R (Kd.int .i64) 3 w' w.heap.size (fun _=>True) v106 x8_1)∧Aside0 (Below w.heap.size w w'))
     case atStart=>exact ⟨(y105),(a1),(wrap64 ((l0.length:Int) - 1)),(by first|rfl|(simp;done)|(simp [*];done)),(by first|rfl|(simp;done)|(simp [*];done)),H',⟨Nat.le_refl _⟩,⟨by (with_reducible repeat (first|apply Kd.Qp|apply Kd.Qo|apply Kd.N_drew));exact HO104.out⟩,⟨by (with_reducible repeat (first|apply Kd.Qf|apply Kd.Qe|apply Kd.R_drew));exact HO107.out⟩,⟨by repeat (first|(with_reducible first|exact HB.out|apply Qc|apply Qa|apply Qb)|exact HB.out)⟩⟩
     case round=>
      clear H';(try clear c1);(try clear p2);(try clear c4);(try clear c6);(try clear c6b0);(try clear c6b1);(try clear p6);(try clear c7);(try clear c7b0);(try clear c7b1);obtain ⟨x8_1,x9_1,x10_1,rfl,rfl,HA,HK1,HO_7,HO_8,HB⟩:=hrel
      cases gk with
      |zero=>exact absurd HA.out (by simp [impl_BestChoice.l0])
      |succ k1=>
       have H:=HA.out;clear HA;simp only [impl_BestChoice.l0] at H;by_cases c14:x10_1 ≥ 0
       ·rw [if_pos c14] at H;have c14b0:decide (0≤x10_1)=true:=decide_eq_true c14;clear c14;have H':=aM H;clear H;go_wp2;go_loopg [11] k1 (fun kq v11 w'=>∃ (x11_2:Int),v11= .int .i64 x11_2∧Aside0 (impl_BestChoice.l1 kq l0 a1 t102 x8_1 x9_1 x10_1 x11_2=some (r1,r2,r3))∧Aside0 (kq≤k1)∧Aside0 (Kd.N (Kd.slice 3 (Kd.int .i64)) 23 w' w.heap.size (fun k_=>some k_≠(v106:Value).ownBlock) v103 t102)∧Aside0 (Kd.R (Kd.int .i64) 3 w' w.heap.size (fun _=>True) v106 x8_1)∧Aside0 (Below w.heap.size w w'))
        case atStart=>exact ⟨(0),(by first|rfl|(simp;done)|(simp [*];done)),H',⟨Nat.le_refl _⟩,⟨by (with_reducible repeat (first|apply Kd.Qp|apply Kd.Qo|apply Kd.N_drew));exact HO_7.out⟩,⟨by (with_reducible repeat (first|apply Kd.Qf|apply Kd.Qe|apply Kd.R_drew));exact HO_8.out⟩,⟨by repeat (first|(with_reducible first|exact HB.out|apply Qc|apply Qa|apply Qb)|exact HB.out)⟩⟩
        case round=>
         clear H';(try clear c1);(try clear p2);(try clear c4);(try clear c6);(try clear c6b0);(try clear c6b1);(try clear p6);(try clear c7);(try clear c7b0);(try clear c7b1);(try clear c14);(try clear c14b0);(try clear p2);(try clear p6);obtain ⟨x11_2,rfl,HA,HK2,HO_7,HO_8,HB⟩:=hrel
         cases gk with
         |zero=>exact absurd HA.out (by simp [impl_BestChoice.l1])
         |succ k2=>
          have H:=HA.out;clear HA;simp only [impl_BestChoice.l1] at H;by_cases c15:0≤x10_1
          ·rw [if_pos c15] at H;have c15b0:decide (0≤x10_1)=true:=decide_eq_true c15;clear c15;by_cases c16:x10_1<(t102.length:Int)
           ·rw [if_pos c16] at H;have c16b0:decide (x10_1<(t102.length:Int))=true:=decide_eq_true c16;clear c16;obtain ⟨ji17,hji17⟩:∃ j_:Int,(wrap64 (x9_1 - x11_2))=j_:=⟨_,rfl⟩;replace H:(if 0≤(ji17) then (if (ji17)<((rd_L2 t102 x10_1).length:Int) then (if x10_1<(l0.length:Int) then ((impl_Offer_gain.f ((rd_T53 l0 x10_1).f0) x11_2).bind fun t113=>(if 0≤(wrap64 (x10_1+1)) then (if (wrap64 (x10_1+1))<(t102.length:Int) then (if 0≤x9_1 then (if x9_1<((rd_L2 t102 (wrap64 (x10_1+1))).length:Int) then (if (wrap64 ((rd (rd_L2 t102 x10_1) (ji17))+t113))=(rd (rd_L2 t102 (wrap64 (x10_1+1))) x9_1) then (if x10_1<(x8_1.length:Int) then (impl_BestChoice.l0 k2 l0 a1 t102 (x8_1.set (x10_1:Int).toNat x11_2) ji17 (wrap64 (x10_1 - 1))) else (none)) else (impl_BestChoice.l1 k2 l0 a1 t102 x8_1 x9_1 x10_1 (wrap64 (x11_2+1)))) else (none)) else (none)) else (none)) else (none))) else (none)) else (none)) else (none))=some (r1,r2,r3):=by first|(rw [hji17] at H;exact H)|(simp only [hji17] at H ⊢;exact H)
            have hji17w:(IntKind.i64.wrap (x9_1 - x11_2))=ji17:=(i64_w _).trans hji17;by_cases c18:0≤(ji17)
            ·rw [if_pos c18] at H;have c18b0:decide (0≤(ji17))=true:=decide_eq_true c18;clear c18;by_cases c19:(ji17)<((rd_L2 t102 x10_1).length:Int)
             ·rw [if_pos c19] at H;have c19b0:decide ((ji17)<((rd_L2 t102 x10_1).length:Int))=true:=decide_eq_true c19;clear c19;by_cases c20:x10_1<(l0.length:Int)
              ·rw [if_pos c20] at H;have c20b0:decide (x10_1<(l0.length:Int))=true:=decide_eq_true c20;clear c20;replace H:=Option.bind_eq_some_iff.mp H;obtain ⟨t113,A210,H⟩:=H;replace H:(if 0≤(wrap64 (x10_1+1)) then (if (wrap64 (x10_1+1))<(t102.length:Int) then (if 0≤x9_1 then (if x9_1<((rd_L2 t102 (wrap64 (x10_1+1))).length:Int) then (if (wrap64 ((rd (rd_L2 t102 x10_1) (ji17))+t113))=(rd (rd_L2 t102 (wrap64 (x10_1+1))) x9_1) then (if x10_1<(x8_1.length:Int) then (impl_BestChoice.l0 k2 l0 a1 t102 (x8_1.set (x10_1:Int).toNat x11_2) ji17 (wrap64 (x10_1 - 1))) else (none)) else (impl_BestChoice.l1 k2 l0 a1 t102 x8_1 x9_1 x10_1 (wrap64 (x11_2+1)))) else (none)) else (none)) else (none)) else (none))=some (r1,r2,r3):=H;have A21:=aM A210;clear A210;obtain ⟨ji22,hji22⟩:∃ j_:Int,(wrap64 (x10_1+1))=j_:=⟨_,rfl⟩;replace H:(if 0≤(ji22) then (if (ji22)<(t102.length:Int) then (if 0≤x9_1 then (if x9_1<((rd_L2 t102 (ji22)).length:Int) then (if (wrap64 ((rd (rd_L2 t102 x10_1) (ji17))+t113))=(rd (rd_L2 t102 (ji22)) x9_1) then (if x10_1<(x8_1.length:Int) then (impl_BestChoice.l0 k2 l0 a1 t102 (x8_1.set (x10_1:Int).toNat x11_2) ji17 (wrap64 (x10_1 - 1))) else (none)) else (impl_BestChoice.l1 k2 l0 a1 t102 x8_1 x9_1 x10_1 (wrap64 (x11_2+1)))) else (none)) else (none)) else (none)) else (none))=some (r1,r2,r3):=by first|(rw [hji22] at H;exact H)|(simp only [hji22] at H ⊢;exact H)
               (try rw [hji22] at A21);have hji22w:(IntKind.i64.wrap (x10_1+1))=ji22:=(i64_w _).trans hji22;by_cases c23:0≤(ji22)
               ·rw [if_pos c23] at H;have c23b0:decide (0≤(ji22))=true:=decide_eq_true c23;clear c23;by_cases c24:(ji22)<(t102.length:Int)
                ·rw [if_pos c24] at H;have c24b0:decide ((ji22)<(t102.length:Int))=true:=decide_eq_true c24;clear c24;by_cases c25:0≤x9_1
                 ·rw [if_pos c25] at H;have c25b0:decide (0≤x9_1)=true:=decide_eq_true c25;clear c25;by_cases c26:x9_1<((rd_L2 t102 (ji22)).length:Int)
                  ·rw [if_pos c26] at H;have c26b0:decide (x9_1<((rd_L2 t102 (ji22)).length:Int))=true:=decide_eq_true c26;clear c26;by_cases c27:(wrap64 ((rd (rd_L2 t102 x10_1) (ji17))+t113))=(rd (rd_L2 t102 (ji22)) x9_1)
                   ·rw [if_pos c27] at H;have c27b0:((wrap64 ((rd (rd_L2 t102 x10_1) (ji17))+t113)) == (rd (rd_L2 t102 (ji22)) x9_1))=true:=beq_iff_eq.mpr c27;have c27b1:((wrap64 ((rd (rd_L2 t102 x10_1) (ji17))+t113)) != (rd (rd_L2 t102 (ji22)) x9_1))=false:=bne_eq_false_iff_eq.mpr c27;clear c27;by_cases c28:x10_1<(x8_1.length:Int)
                    ·rw [if_pos c28] at H;have c28b0:decide (x10_1<(x8_1.length:Int))=true:=decide_eq_true c28;clear c28;obtain ⟨y116,hy116⟩:∃ y_:List Int,y_=(x8_1.set (x10_1:Int).toNat x11_2):=⟨_,rfl⟩;replace H:(impl_BestChoice.l0 k2 l0 a1 t102 y116 ji17 (wrap64 (x10_1 - 1)))=some (r1,r2,r3):=by first|(rw [hy116];with_reducible exact H)|(have H2_:=(Option.bind_some _ _).symm.trans H;rw [hy116];with_reducible exact H2_)|(have H2_:=(Option.bind_some _ _).symm.trans H;with_reducible exact H2_)|with_reducible exact H|(rw [hy116];exact H)|exact H
                     have Ny116:=aM hy116;clear hy116;have H':=aM H;clear H
                     try go_wp2
                     have n0_:=aM (Kd.N_drew HO_7.out);have n1_:=aM (Kd.R_drew HO_8.out);have n2_:=aM (Qb HB.out);clear HO_7;clear HO_8;clear HB;have HO_7:=n0_;have HO_8:=n1_;have HB:=n2_;clear n0_ n1_ n2_;obtain ⟨Ao31,co31,eo31⟩:=Kd.N_slice HO_7.out
                     (first|subst eo31|(injection eo31 with f1_ f2_ f3_;have f4_:=f1_.symm;have f5_:=f3_.symm;clear f1_ f2_ f3_;subst f4_;subst f5_))
                     have p110:0≤(x10_1:Int):=of_decide_eq_true (by first|(with_reducible assumption)|assumption);have q110:x10_1<(t102.length:Int):=of_decide_eq_true (by first|(with_reducible assumption)|assumption);obtain ⟨ad110,A110_0,c110_0,e110,hx110_0,hl110_0,hi110_0⟩:=at_L2 (Kd.Qq HO_7.out).2.2 x10_1 p110 q110
                     cases e110
                     obtain ⟨ce110,hce110,hMe110,hcc110⟩:=Kd.N_get HO_7.out [] x10_1 p110 (by first|exact q110|exact of_decide_eq_true (by first|(with_reducible assumption)|assumption)|(have e_:=(Kd.Qq HO_7.out).1;omega));obtain ⟨ua110_0,uc110_0,rfl,ul110_0,ge110_0⟩:=Kd.FK_slice_open hMe110;have hv110_0:=hcc110 0 _ rfl;rw [Nat.add_zero,show ((Kd.slice 3 (Kd.int .i64))).sz=1 from rfl,Nat.mul_one] at hv110_0;replace hv110_0:=Option.some.inj (hv110_0.symm.trans hx110_0)
                     injection hv110_0 with hva_ hvn_ hvc_
                     rw [hva_] at ge110_0;rw [hvc_] at ul110_0;have HL110_0:=aM (show Kd.V (Kd.int .i64) 3 _ w.heap.size _ _ (rd_L2 t102 x10_1) from Kd.V_mk ul110_0 ge110_0);clear hva_ hvn_ hvc_ ge110_0 ul110_0;clear hcc110 hce110;have HR110_0:=aM hi110_0;have HC110_0:=aM hl110_0;clear hi110_0 hl110_0;replace p110:=eq_true p110;replace q110:=eq_true q110;have p111:0≤((ji17):Int):=of_decide_eq_true (by first|(with_reducible assumption)|assumption);have q111:(ji17)<((rd_L2 t102 x10_1).length:Int):=of_decide_eq_true (by first|(with_reducible assumption)|assumption);obtain ⟨ad111,e111,hx111_0⟩:=Kd.at_int (by repeat (first|(with_reducible exact HR110_0.out)|(with_reducible refine Kd.Ql ?_ _)|(with_reducible refine Kd.Qm ?_ _)|(with_reducible refine Kd.C_drew ?_)|exact HR110_0.out)) (ji17) p111 q111
                     cases e111
                     replace p111:=eq_true p111;replace q111:=eq_true q111;have p112:0≤(x10_1:Int):=of_decide_eq_true (by first|(with_reducible assumption)|assumption);have q112:x10_1<(l0.length:Int):=of_decide_eq_true (by first|(with_reducible assumption)|assumption);obtain ⟨ad112,A112_0,c112_0,e112,hx112_0,hl112_0,hi112_0⟩:=at_T53 HR0.out x10_1 p112 q112;have hw112_0:=hx112_0
                     cases e112
                     replace hx112_0:=(HB.out.cell (aI w _ hx112_0)).trans hx112_0;have HR112_0:=aM hi112_0;have HC112_0:=aM hl112_0;clear hi112_0 hl112_0;replace p112:=eq_true p112;replace q112:=eq_true q112;have p114:0≤((ji22):Int):=of_decide_eq_true (by first|(with_reducible assumption)|assumption);have q114:(ji22)<(t102.length:Int):=of_decide_eq_true (by first|(with_reducible assumption)|assumption);obtain ⟨ad114,A114_0,c114_0,e114,hx114_0,hl114_0,hi114_0⟩:=at_L2 (Kd.Qq HO_7.out).2.2 (ji22) p114 q114;obtain rfl:ad110=ad114:=(by injection e114);obtain ⟨ce114,hce114,hMe114,hcc114⟩:=Kd.N_get HO_7.out [] (ji22) p114 (by first|exact q114|exact of_decide_eq_true (by first|(with_reducible assumption)|assumption)|(have e_:=(Kd.Qq HO_7.out).1;omega));obtain ⟨ua114_0,uc114_0,rfl,ul114_0,ge114_0⟩:=Kd.FK_slice_open hMe114;have hv114_0:=hcc114 0 _ rfl;rw [Nat.add_zero,show ((Kd.slice 3 (Kd.int .i64))).sz=1 from rfl,Nat.mul_one] at hv114_0;replace hv114_0:=Option.some.inj (hv114_0.symm.trans hx114_0)
                     injection hv114_0 with hva_ hvn_ hvc_
                     rw [hva_] at ge114_0;rw [hvc_] at ul114_0;have HL114_0:=aM (show Kd.V (Kd.int .i64) 3 _ w.heap.size _ _ (rd_L2 t102 (ji22)) from Kd.V_mk ul114_0 ge114_0);clear hva_ hvn_ hvc_ ge114_0 ul114_0;clear hcc114 hce114;have HR114_0:=aM hi114_0;have HC114_0:=aM hl114_0;clear hi114_0 hl114_0;replace p114:=eq_true p114;replace q114:=eq_true q114;have p115:0≤(x9_1:Int):=of_decide_eq_true (by first|(with_reducible assumption)|assumption);have q115:x9_1<((rd_L2 t102 (ji22)).length:Int):=of_decide_eq_true (by first|(with_reducible assumption)|assumption);obtain ⟨ad115,e115,hx115_0⟩:=Kd.at_int (by repeat (first|(with_reducible exact HR114_0.out)|(with_reducible refine Kd.Ql ?_ _)|(with_reducible refine Kd.Qm ?_ _)|(with_reducible refine Kd.C_drew ?_)|exact HR114_0.out)) x9_1 p115 q115
                     cases e115
                     replace p115:=eq_true p115;replace q115:=eq_true q115;refine start_ (n:=25) (S:=fun w'=>w'.cell? (ad110.add (x10_1).toNat)=some (.slice (some ad111) (rd_L2 t102 x10_1).length c110_0)∧w'.cell? (ad111.add ((ji17)).toNat)=some (.int .i64 (rd (rd_L2 t102 x10_1) (ji17)))∧w'.cell? (ad112.add (x10_1).toNat)=some (.slice A112_0 ((rd_T53 l0 x10_1).f0).length c112_0)∧w'.cell? (ad110.add ((ji22)).toNat)=some (.slice (some ad115) (rd_L2 t102 (ji22)).length c114_0)∧w'.cell? (ad115.add (x9_1).toNat)=some (.int .i64 (rd (rd_L2 t102 (ji22)) x9_1))) (ds:=[]) #[false,false,false,false,false,false,false,false,false,false,false,false,false,false,false,false,false,false,false,false,false,false,false,false,false] (by kernel_rfl) rfl rfl ⟨hx110_0,hx111_0,((HB.out.cell (aI w _ hw112_0)).trans hw112_0),hx114_0,hx115_0⟩ (fun hHeld=>?_);refine with_tabW impl_BestChoice.tab8 impl_BestChoice.bits8 (fun HT_ HW_=>?_)
                     generalize wr.drew=w30 at HO_7 HO_8 HB HL110_0 HL114_0 HR110_0 HR112_0 HR114_0 hx110_0 hx111_0 hx112_0 hx114_0 hx115_0 hHeld ⊢
                     refine pure_ (i:=0) (N:=some 30) (v:=?_) (a':=?_) #[true,false,false,false,false,false,false,false,false,false,false,false,false,false,false,false,false,false,false,false,false,false,false,false,false] rfl rfl (any_of HT_.out (by kernel_rfl)) (fun _ _ _ h=>h) (Or.inl ⟨by rfl,?_⟩) ?_ ?_
                     rotate_left
                     ·intro w'
                      go_simp
                      with_reducible rfl
                     rotate_left
                     ·simp only [Act.put,aA,aB,aC,i64_w,i32_w]
                      rfl
                     refine pure_ (i:=1) (N:=some 31) (v:=?_) (a':=?_) #[true,true,false,false,false,false,false,false,false,false,false,false,false,false,false,false,false,false,false,false,false,false,false,false,false] rfl rfl (any_of HT_.out (by kernel_rfl)) (fun _ _ _ h=>h) (Or.inl ⟨by rfl,?_⟩) ?_ ?_
                     rotate_left
                     ·intro w'
                      go_simp
                      with_reducible rfl
                     rotate_left
                     ·simp only [Act.put,aA,aB,aC,i64_w,i32_w]
                      rfl
                     refine pure_ (i:=2) (N:=some 32) (v:=?_) (a':=?_) #[true,true,true,false,false,false,false,false,false,false,false,false,false,false,false,false,false,false,false,false,false,false,false,false,false] rfl rfl (any_of HT_.out (by kernel_rfl)) (fun _ _ _ h=>h) (Or.inl ⟨by rfl,?_⟩) ?_ ?_
                     rotate_left
                     ·intro w'
                      go_simp
                      with_reducible rfl
                     rotate_left
                     ·simp only [Act.put,aA,aB,aC,i64_w,i32_w]
                      rfl
                     refine pure_ (i:=4) (N:=some 34) (v:=?_) (a':=?_) #[true,true,true,false,true,false,false,false,false,false,false,false,false,false,false,false,false,false,false,false,false,false,false,false,false] rfl rfl (any_of HT_.out (by kernel_rfl)) (fun _ _ _ h=>h) (Or.inl ⟨by rfl,?_⟩) ?_ ?_
                     rotate_left
                     ·intro w'
                      go_simp
                      with_reducible rfl
                     rotate_left
                     ·simp only [Act.put,aA,aB,aC,i64_w,i32_w]
                      rfl
                     refine pure_ (i:=5) (N:=some 35) (v:=?_) (a':=?_) #[true,true,true,false,true,true,false,false,false,false,false,false,false,false,false,false,false,false,false,false,false,false,false,false,false] rfl rfl (any_of HT_.out (by kernel_rfl)) (fun _ _ _ h=>h) (Or.inl ⟨by rfl,?_⟩) ?_ ?_
                     rotate_left
                     ·intro w'
                      go_simp
                      with_reducible rfl
                     rotate_left
                     ·simp only [Act.put,aA,aB,aC,i64_w,i32_w]
                      rfl
                     refine pure_ (i:=6) (N:=some 36) (v:=?_) (a':=?_) #[true,true,true,false,true,true,true,false,false,false,false,false,false,false,false,false,false,false,false,false,false,false,false,false,false] rfl rfl (any_of HT_.out (by kernel_rfl)) (fun _ _ _ h=>h) (Or.inl ⟨by rfl,?_⟩) ?_ ?_
                     rotate_left
                     ·intro w'
                      go_simp
                      with_reducible rfl
                     rotate_left
                     ·simp only [Act.put,aA,aB,aC,i64_w,i32_w]
                      rfl
                     refine pure_ (i:=9) (N:=some 39) (v:=?_) (a':=?_) #[true,true,true,false,true,true,true,false,false,true,false,false,false,false,false,false,false,false,false,false,false,false,false,false,false] rfl rfl (any_of HT_.out (by kernel_rfl)) (fun _ _ _ h=>h) (Or.inl ⟨by rfl,?_⟩) ?_ ?_
                     rotate_left
                     ·intro w'
                      go_simp
                      with_reducible rfl
                     rotate_left
                     ·simp only [Act.put,aA,aB,aC,i64_w,i32_w]
                      rfl
                     refine pure_ (i:=10) (N:=some 40) (v:=?_) (a':=?_) #[true,true,true,false,true,true,true,false,false,true,true,false,false,false,false,false,false,false,false,false,false,false,false,false,false] rfl rfl (any_of HT_.out (by kernel_rfl)) (fun _ _ _ h=>h) (Or.inl ⟨by rfl,?_⟩) ?_ ?_
                     rotate_left
                     ·intro w'
                      go_simp
                      with_reducible rfl
                     rotate_left
                     ·simp only [Act.put,aA,aB,aC,i64_w,i32_w]
                      rfl
                     refine pure_ (i:=11) (N:=some 41) (v:=?_) (a':=?_) #[true,true,true,false,true,true,true,false,false,true,true,true,false,false,false,false,false,false,false,false,false,false,false,false,false] rfl rfl (any_of HT_.out (by kernel_rfl)) (fun _ _ _ h=>h) (Or.inl ⟨by rfl,?_⟩) ?_ ?_
                     rotate_left
                     ·intro w'
                      go_simp
                      with_reducible rfl
                     rotate_left
                     ·simp only [Act.put,aA,aB,aC,i64_w,i32_w]
                      rfl
                     refine pure_ (i:=13) (N:=some 43) (v:=?_) (a':=?_) #[true,true,true,false,true,true,true,false,false,true,true,true,false,true,false,false,false,false,false,false,false,false,false,false,false] rfl rfl (any_of HT_.out (by kernel_rfl)) (fun _ _ _ h=>h) (Or.inl ⟨by rfl,?_⟩) ?_ ?_
                     rotate_left
                     ·intro w'
                      go_simp
                      with_reducible rfl
                     rotate_left
                     ·simp only [Act.put,aA,aB,aC,i64_w,i32_w]
                      rfl
                     refine pure_ (i:=16) (N:=some 46) (v:=?_) (a':=?_) #[true,true,true,false,true,true,true,false,false,true,true,true,false,true,false,false,true,false,false,false,false,false,false,false,false] rfl rfl (any_of HT_.out (by kernel_rfl)) (fun _ _ _ h=>h) (Or.inl ⟨by rfl,?_⟩) ?_ ?_
                     rotate_left
                     ·intro w'
                      go_simp
                      with_reducible rfl
                     rotate_left
                     ·simp only [Act.put,aA,aB,aC,i64_w,i32_w]
                      rfl
                     refine pure_ (i:=17) (N:=some 47) (v:=?_) (a':=?_) #[true,true,true,false,true,true,true,false,false,true,true,true,false,true,false,false,true,true,false,false,false,false,false,false,false] rfl rfl (any_of HT_.out (by kernel_rfl)) (fun _ _ _ h=>h) (Or.inl ⟨by rfl,?_⟩) ?_ ?_
                     rotate_left
                     ·intro w'
                      go_simp
                      with_reducible rfl
                     rotate_left
                     ·simp only [Act.put,aA,aB,aC,i64_w,i32_w]
                      rfl
                     refine pure_ (i:=18) (N:=some 48) (v:=?_) (a':=?_) #[true,true,true,false,true,true,true,false,false,true,true,true,false,true,false,false,true,true,true,false,false,false,false,false,false] rfl rfl (any_of HT_.out (by kernel_rfl)) (fun _ _ _ h=>h) (Or.inl ⟨by rfl,?_⟩) ?_ ?_
                     rotate_left
                     ·intro w'
                      go_simp
                      with_reducible rfl
                     rotate_left
                     ·simp only [Act.put,aA,aB,aC,i64_w,i32_w]
                      rfl
                     refine pure_ (i:=19) (N:=some 49) (v:=?_) (a':=?_) #[true,true,true,false,true,true,true,false,false,true,true,true,false,true,false,false,true,true,true,true,false,false,false,false,false] rfl rfl (any_of HT_.out (by kernel_rfl)) (fun _ _ _ h=>h) (Or.inl ⟨by rfl,?_⟩) ?_ ?_
                     rotate_left
                     ·intro w'
                      go_simp
                      with_reducible rfl
                     rotate_left
                     ·simp only [Act.put,aA,aB,aC,i64_w,i32_w]
                      rfl
                     refine pure_ (i:=21) (N:=some 51) (v:=?_) (a':=?_) #[true,true,true,false,true,true,true,false,false,true,true,true,false,true,false,false,true,true,true,true,false,true,false,false,false] rfl rfl (any_of HT_.out (by kernel_rfl)) (fun _ _ _ h=>h) (Or.inl ⟨by rfl,?_⟩) ?_ ?_
                     rotate_left
                     ·intro w'
                      go_simp
                      with_reducible rfl
                     rotate_left
                     ·simp only [Act.put,aA,aB,aC,i64_w,i32_w]
                      rfl
                     refine take_ (i:=3) (N:=some 33) (v:=?_) (a':=?_) #[true,true,true,true,true,true,true,false,false,true,true,true,false,true,false,false,true,true,true,true,false,true,false,false,false] rfl rfl (take_ofW HT_.out HW_.out (by kernel_rfl)) (fun _ _ _ h=>h) (Or.inl ⟨by rfl,?_⟩) hHeld ?_ ?_
                     rotate_left
                     ·rintro w' ⟨s0,s1,s2,s3,s4⟩
                      go_simp
                      with_reducible rfl
                     rotate_left
                     ·simp only [Act.put,aA,aB,aC,i64_w,i32_w]
                      rfl
                     refine pure_ (i:=7) (N:=some 37) (v:=?_) (a':=?_) #[true,true,true,true,true,true,true,true,false,true,true,true,false,true,false,false,true,true,true,true,false,true,false,false,false] rfl rfl (any_of HT_.out (by kernel_rfl)) (fun _ _ _ h=>h) (Or.inl ⟨by rfl,?_⟩) ?_ ?_
                     rotate_left
                     ·intro w'
                      go_simp
                      with_reducible rfl
                     rotate_left
                     ·simp only [Act.put,aA,aB,aC,i64_w,i32_w]
                      rfl
                     refine take_ (i:=8) (N:=some 38) (v:=?_) (a':=?_) #[true,true,true,true,true,true,true,true,true,true,true,true,false,true,false,false,true,true,true,true,false,true,false,false,false] rfl rfl (take_ofW HT_.out HW_.out (by kernel_rfl)) (fun _ _ _ h=>h) (Or.inl ⟨by rfl,?_⟩) hHeld ?_ ?_
                     rotate_left
                     ·rintro w' ⟨s0,s1,s2,s3,s4⟩
                      go_simp
                      with_reducible rfl
                     rotate_left
                     ·simp only [Act.put,aA,aB,aC,i64_w,i32_w]
                      rfl
                     refine take_ (i:=12) (N:=some 42) (v:=?_) (a':=?_) #[true,true,true,true,true,true,true,true,true,true,true,true,true,true,false,false,true,true,true,true,false,true,false,false,false] rfl rfl (take_ofW HT_.out HW_.out (by kernel_rfl)) (fun _ _ _ h=>h) (Or.inl ⟨by rfl,?_⟩) hHeld ?_ ?_
                     rotate_left
                     ·rintro w' ⟨s0,s1,s2,s3,s4⟩
                      go_simp
                      with_reducible rfl
                     rotate_left
                     ·simp only [Act.put,aA,aB,aC,i64_w,i32_w]
                      rfl
                     refine take_ (i:=20) (N:=some 50) (v:=?_) (a':=?_) #[true,true,true,true,true,true,true,true,true,true,true,true,true,true,false,false,true,true,true,true,true,true,false,false,false] rfl rfl (take_ofW HT_.out HW_.out (by kernel_rfl)) (fun _ _ _ h=>h) (Or.inl ⟨by rfl,?_⟩) hHeld ?_ ?_
                     rotate_left
                     ·rintro w' ⟨s0,s1,s2,s3,s4⟩
                      go_simp
                      with_reducible rfl
                     rotate_left
                     ·simp only [Act.put,aA,aB,aC,i64_w,i32_w]
                      rfl
                     refine pure_ (i:=22) (N:=some 52) (v:=?_) (a':=?_) #[true,true,true,true,true,true,true,true,true,true,true,true,true,true,false,false,true,true,true,true,true,true,true,false,false] rfl rfl (any_of HT_.out (by kernel_rfl)) (fun _ _ _ h=>h) (Or.inl ⟨by rfl,?_⟩) ?_ ?_
                     rotate_left
                     ·intro w'
                      go_simp
                      with_reducible rfl
                     rotate_left
                     ·simp only [Act.put,aA,aB,aC,i64_w,i32_w]
                      rfl
                     refine take_ (i:=23) (N:=some 53) (v:=?_) (a':=?_) #[true,true,true,true,true,true,true,true,true,true,true,true,true,true,false,false,true,true,true,true,true,true,true,true,false] rfl rfl (take_ofW HT_.out HW_.out (by kernel_rfl)) (fun _ _ _ h=>h) (Or.inl ⟨by rfl,?_⟩) hHeld ?_ ?_
                     rotate_left
                     ·rintro w' ⟨s0,s1,s2,s3,s4⟩
                      go_simp
                      with_reducible rfl
                     rotate_left
                     ·simp only [Act.put,aA,aB,aC,i64_w,i32_w]
                      rfl
                     refine one_ (i:=14) (N:=some 44) #[true,true,true,true,true,true,true,true,true,true,true,true,true,true,true,false,true,true,true,true,true,true,true,true,false] rfl rfl (one_of HT_.out (by kernel_rfl)) (by decide) (fun K hK=>?_)
                     first|(refine goes_ Try.func144 (by kernel_rfl) rfl #[.agg #[.slice A112_0 ((rd_T53 l0 x10_1).f0).length c112_0],.int .i64 x11_2] (by rfl) rfl rfl (by (try simp only [aD,aE,aF]);first|done|rfl|(simp only [aG,aH];rfl)) ?_)|(refine call_ 144 #[.agg #[.slice A112_0 ((rd_T53 l0 x10_1).f0).length c112_0],.int .i64 x11_2] (by rfl) rfl (by unfold execOp;simp [resolve,Deferred.ofValue,invoke,Act.eval,enters_ Try.func144 (by kernel_rfl) rfl]) ?_)
                     with_reducible refine (impl_Offer_gain.calls _ _ ((rd_T53 l0 x10_1).f0) x11_2 t113 _ ?side1 ?side2 A21.out).mono ?_
                     (case side1=>repeat (first|exact (Kd.C_below HR112_0.out HB.out)|(with_reducible refine Kd.Ql ?_ _)|(with_reducible refine Kd.Qm ?_ _)|(with_reducible refine Kd.C_drew ?_)))
                     (case side2=>exact HC112_0.out)
                     rintro e w32 ⟨rfl,hb⟩
                     have HS0_:=(hb.cell (aI _ _ (hHeld.1))).trans (hHeld.1);have HS1_:=(hb.cell (aI _ _ (hHeld.2.1))).trans (hHeld.2.1);have HS3_:=(hb.cell (aI _ _ (hHeld.2.2.2.1))).trans (hHeld.2.2.2.1);have HS4_:=(hb.cell (aI _ _ (hHeld.2.2.2.2))).trans (hHeld.2.2.2.2);refine ⟨_,rfl,?_⟩;have n0_:=aM (Kd.Qw (by (with_reducible repeat (first|apply Kd.Qp|apply Kd.Qo|apply Kd.N_drew));exact HO_7.out) hb);have n1_:=aM (Kd.Qr (by (with_reducible repeat (first|apply Kd.Qf|apply Kd.Qe|apply Kd.R_drew));exact HO_8.out) hb);have n2_:=aM (Kd.V_below (by (with_reducible repeat (first|apply Kd.V_alloc|apply Kd.V_drewN|apply Kd.V_drew));exact HL110_0.out) hb);have n3_:=aM (Kd.V_below (by (with_reducible repeat (first|apply Kd.V_alloc|apply Kd.V_drewN|apply Kd.V_drew));exact HL114_0.out) hb);have n4_:=aM (Kd.C_below (by repeat (first|(with_reducible exact HR110_0.out)|(with_reducible refine Kd.Ql ?_ _)|(with_reducible refine Kd.Qm ?_ _)|(with_reducible refine Kd.C_drew ?_)|exact HR110_0.out)) hb);have n5_:=aM (Kd.C_below (by repeat (first|(with_reducible exact HR114_0.out)|(with_reducible refine Kd.Ql ?_ _)|(with_reducible refine Kd.Qm ?_ _)|(with_reducible refine Kd.C_drew ?_)|exact HR114_0.out)) hb);have n6_:=aM (Qg (by repeat (first|(with_reducible first|exact HB.out|apply Qc|apply Qa|apply Qb)|exact HB.out)) hb);clear HO_7;clear HO_8;clear HL110_0;clear HL114_0;clear HR110_0;clear HR114_0;clear HB;have HO_7:=n0_;have HO_8:=n1_;have HL110_0:=n2_;have HL114_0:=n3_;have HR110_0:=n4_;have HR114_0:=n5_;have HB:=n6_;clear n0_ n1_ n2_ n3_ n4_ n5_ n6_;(try clear hb);(try clear hb2);(try clear hk);(try clear hi);refine hK.out _ _ ⟨HS0_,HS1_,((HB.out.cell (aI w _ hw112_0)).trans hw112_0),HS3_,HS4_⟩ (fun hHeld=>?_);clear hK K;refine norm_ (a':=?_) ?_ ?_
                     rotate_left
                     ·show Act.put _ (some 44) _=_
                      simp only [Act.put,aA,aB,aC,i64_w,i32_w]
                      rfl
                     refine pure_ (i:=15) (N:=some 45) (v:=?_) (a':=?_) #[true,true,true,true,true,true,true,true,true,true,true,true,true,true,true,true,true,true,true,true,true,true,true,true,false] rfl rfl (any_of HT_.out (by kernel_rfl)) (fun _ _ _ h=>h) (Or.inl ⟨by rfl,?_⟩) ?_ ?_
                     rotate_left
                     ·intro w'
                      go_simp
                      with_reducible rfl
                     rotate_left
                     ·simp only [Act.put,aA,aB,aC,i64_w,i32_w]
                      rfl
                     refine pure_ (i:=24) (N:=some 54) (v:=?_) (a':=?_) #[true,true,true,true,true,true,true,true,true,true,true,true,true,true,true,true,true,true,true,true,true,true,true,true,true] rfl rfl (any_of HT_.out (by kernel_rfl)) (fun _ _ _ h=>h) (Or.inl ⟨by rfl,?_⟩) ?_ ?_
                     rotate_left
                     ·intro w'
                      go_simp
                      with_reducible rfl
                     rotate_left
                     ·simp only [Act.put,aA,aB,aC,i64_w,i32_w]
                      rfl
                     refine done_ (done_of HT_.out (by kernel_rfl)) ?_;have p29:0≤(x10_1:Int):=of_decide_eq_true (by first|(with_reducible assumption)|assumption);have q29:(x10_1:Int)<((x8_1.length:Int):Int):=of_decide_eq_true (by first|(with_reducible assumption)|assumption);obtain ⟨go29,co29,eo29,gb29,gl29,cl29,HG29⟩:=Kd.R_form HO_8.out (by omega)
                     (first|cases eo29|(injection eo29 with ea_ en_ ec_;(first|subst ea_|(injection ea_ with ea_;subst ea_));subst ec_;clear en_))
                     have GB29:=aM gb29;have GG29:=aM HG29;clear gb29 gl29 HG29;obtain ⟨hx29_0,hf29_0⟩:=Kd.R_celln 0 HO_8.out (x10_1:Int) p29 q29;replace p29:=eq_true p29;replace q29:=eq_true q29;obtain ⟨hy33_,hz33_⟩:=Kd.R_celln 0 HO_8.out (x10_1:Int) (of_decide_eq_true (by first|(with_reducible assumption)|assumption)) (of_decide_eq_true (by first|(with_reducible assumption)|assumption));have HP33:=Kd.R_putg HO_8.out (x10_1:Int) x11_2
                     try go_wp2_with (first|((with_reducible refine gate_store (t:=3) (p:=60) rfl ?_);refine store_event (t:=3) (p:=60) (v:=?vo_w34) (w1:=(w32.setCell ⟨go29,(x10_1:Int).toNat,none⟩ (.int .i64 x11_2))) ?hg ?ho ?hn ?hr ?_;(case ho=>rfl);(case hg=>rfl);(case hn=>rfl);(case hr=>first|(go_simp;done)|(go_simp;rfl));intro w34 hw;have hg:w32.grownBy w34 (some go29):=(by rw [hw];exact HP33.2);have hp_:Kd.R (Kd.int .i64) 3 w34 w.heap.size (fun _=>True) (.slice (some ⟨go29,0,none⟩) x8_1.length co29) y116:=(by rw [hw,Ny116.out];exact HP33.1);clear HP33;have n0_:=aM (Kd.N_afterv (v:=(.slice (some ⟨go29,0,none⟩) x8_1.length co29)) (v1:=(.slice (some ⟨go29,0,none⟩) x8_1.length co29)) (ok:=(fun _=>True)) (by (with_reducible repeat (first|apply Kd.Qp|apply Kd.Qo|apply Kd.N_drew));exact Kd.N_mono HO_7.out (fun _ hk=>⟨trivial,hk⟩)) hg (.inl rfl));have n1_:=aM (hp_);have n2_:=aM (Kd.V_afterv (v:=(.slice (some ⟨go29,0,none⟩) x8_1.length co29)) (v1:=(.slice (some ⟨go29,0,none⟩) x8_1.length co29)) (ok:=(fun k_=>some k_≠(.slice (some ad110) t102.length co31:Value).ownBlock)) (by (with_reducible repeat (first|apply Kd.V_alloc|apply Kd.V_drewN|apply Kd.V_drew));exact Kd.V_mono HL110_0.out (fun _ hk=>⟨hk.2,hk.1⟩)) hg (.inl rfl));have n3_:=aM (Kd.V_afterv (v:=(.slice (some ⟨go29,0,none⟩) x8_1.length co29)) (v1:=(.slice (some ⟨go29,0,none⟩) x8_1.length co29)) (ok:=(fun k_=>some k_≠(.slice (some ad110) t102.length co31:Value).ownBlock)) (by (with_reducible repeat (first|apply Kd.V_alloc|apply Kd.V_drewN|apply Kd.V_drew));exact Kd.V_mono HL114_0.out (fun _ hk=>⟨hk.2,hk.1⟩)) hg (.inl rfl));have n4_:=aM ((by rw [hw];exact Qd (HB.out) GB29.out:Below w.heap.size w w34));clear HO_7;clear HO_8;clear HL110_0;clear HL114_0;clear HB;have HO_7:=n0_;have HO_8:=n1_;have HL110_0:=n2_;have HL114_0:=n3_;have HB:=n4_;clear n0_ n1_ n2_ n3_ n4_;clear hg hw hp_))
                     go_roundg k2
                     case measure=>have:=HK1.out;have:=HK2.out;omega
                     case rel=>exact ⟨(y116),(ji17),(wrap64 (x10_1 - 1)),(by first|rfl|(simp;done)|(simp only [←hji17] <;> (first|rfl|simp))|(simp [*];done)),(by first|rfl|(simp;done)|(simp [*];done)),H',⟨by have:=HK1.out;have:=HK2.out;omega⟩,⟨by (with_reducible repeat (first|apply Kd.Qp|apply Kd.Qo|apply Kd.N_drew));exact Kd.N_mono HO_7.out (fun _ hk=>hk.2)⟩,⟨by (with_reducible repeat (first|apply Kd.Qf|apply Kd.Qe|apply Kd.R_drew));exact HO_8.out⟩,⟨by repeat (first|(with_reducible first|exact HB.out|apply Qc|apply Qa|apply Qb)|exact HB.out)⟩⟩
                    ·rw [if_neg c28] at H;exact absurd H (by simp)
                   ·rw [if_neg c27] at H;have c27b0:((wrap64 ((rd (rd_L2 t102 x10_1) (ji17))+t113)) == (rd (rd_L2 t102 (ji22)) x9_1))=false:=beq_eq_false_iff_ne.mpr c27;have c27b1:((wrap64 ((rd (rd_L2 t102 x10_1) (ji17))+t113)) != (rd (rd_L2 t102 (ji22)) x9_1))=true:=bne_iff_ne.mpr c27;have H':=aM H;clear H
                    try go_wp2
                    have n0_:=aM (Kd.N_drew HO_7.out);have n1_:=aM (Kd.R_drew HO_8.out);have n2_:=aM (Qb HB.out);clear HO_7;clear HO_8;clear HB;have HO_7:=n0_;have HO_8:=n1_;have HB:=n2_;clear n0_ n1_ n2_;obtain ⟨Ao36,co36,eo36⟩:=Kd.N_slice HO_7.out
                    (first|subst eo36|(injection eo36 with f1_ f2_ f3_;have f4_:=f1_.symm;have f5_:=f3_.symm;clear f1_ f2_ f3_;subst f4_;subst f5_))
                    have p110:0≤(x10_1:Int):=of_decide_eq_true (by first|(with_reducible assumption)|assumption);have q110:x10_1<(t102.length:Int):=of_decide_eq_true (by first|(with_reducible assumption)|assumption);obtain ⟨ad110,A110_0,c110_0,e110,hx110_0,hl110_0,hi110_0⟩:=at_L2 (Kd.Qq HO_7.out).2.2 x10_1 p110 q110
                    cases e110
                    obtain ⟨ce110,hce110,hMe110,hcc110⟩:=Kd.N_get HO_7.out [] x10_1 p110 (by first|exact q110|exact of_decide_eq_true (by first|(with_reducible assumption)|assumption)|(have e_:=(Kd.Qq HO_7.out).1;omega));obtain ⟨ua110_0,uc110_0,rfl,ul110_0,ge110_0⟩:=Kd.FK_slice_open hMe110;have hv110_0:=hcc110 0 _ rfl;rw [Nat.add_zero,show ((Kd.slice 3 (Kd.int .i64))).sz=1 from rfl,Nat.mul_one] at hv110_0;replace hv110_0:=Option.some.inj (hv110_0.symm.trans hx110_0)
                    injection hv110_0 with hva_ hvn_ hvc_
                    rw [hva_] at ge110_0;rw [hvc_] at ul110_0;have HL110_0:=aM (show Kd.V (Kd.int .i64) 3 _ w.heap.size _ _ (rd_L2 t102 x10_1) from Kd.V_mk ul110_0 ge110_0);clear hva_ hvn_ hvc_ ge110_0 ul110_0;clear hcc110 hce110;have HR110_0:=aM hi110_0;have HC110_0:=aM hl110_0;clear hi110_0 hl110_0;replace p110:=eq_true p110;replace q110:=eq_true q110;have p111:0≤((ji17):Int):=of_decide_eq_true (by first|(with_reducible assumption)|assumption);have q111:(ji17)<((rd_L2 t102 x10_1).length:Int):=of_decide_eq_true (by first|(with_reducible assumption)|assumption);obtain ⟨ad111,e111,hx111_0⟩:=Kd.at_int (by repeat (first|(with_reducible exact HR110_0.out)|(with_reducible refine Kd.Ql ?_ _)|(with_reducible refine Kd.Qm ?_ _)|(with_reducible refine Kd.C_drew ?_)|exact HR110_0.out)) (ji17) p111 q111
                    cases e111
                    replace p111:=eq_true p111;replace q111:=eq_true q111;have p112:0≤(x10_1:Int):=of_decide_eq_true (by first|(with_reducible assumption)|assumption);have q112:x10_1<(l0.length:Int):=of_decide_eq_true (by first|(with_reducible assumption)|assumption);obtain ⟨ad112,A112_0,c112_0,e112,hx112_0,hl112_0,hi112_0⟩:=at_T53 HR0.out x10_1 p112 q112;have hw112_0:=hx112_0
                    cases e112
                    replace hx112_0:=(HB.out.cell (aI w _ hx112_0)).trans hx112_0;have HR112_0:=aM hi112_0;have HC112_0:=aM hl112_0;clear hi112_0 hl112_0;replace p112:=eq_true p112;replace q112:=eq_true q112;have p114:0≤((ji22):Int):=of_decide_eq_true (by first|(with_reducible assumption)|assumption);have q114:(ji22)<(t102.length:Int):=of_decide_eq_true (by first|(with_reducible assumption)|assumption);obtain ⟨ad114,A114_0,c114_0,e114,hx114_0,hl114_0,hi114_0⟩:=at_L2 (Kd.Qq HO_7.out).2.2 (ji22) p114 q114;obtain rfl:ad110=ad114:=(by injection e114);obtain ⟨ce114,hce114,hMe114,hcc114⟩:=Kd.N_get HO_7.out [] (ji22) p114 (by first|exact q114|exact of_decide_eq_true (by first|(with_reducible assumption)|assumption)|(have e_:=(Kd.Qq HO_7.out).1;omega));obtain ⟨ua114_0,uc114_0,rfl,ul114_0,ge114_0⟩:=Kd.FK_slice_open hMe114;have hv114_0:=hcc114 0 _ rfl;rw [Nat.add_zero,show ((Kd.slice 3 (Kd.int .i64))).sz=1 from rfl,Nat.mul_one] at hv114_0;replace hv114_0:=Option.some.inj (hv114_0.symm.trans hx114_0)
                    injection hv114_0 with hva_ hvn_ hvc_
                    rw [hva_] at ge114_0;rw [hvc_] at ul114_0;have HL114_0:=aM (show Kd.V (Kd.int .i64) 3 _ w.heap.size _ _ (rd_L2 t102 (ji22)) from Kd.V_mk ul114_0 ge114_0);clear hva_ hvn_ hvc_ ge114_0 ul114_0;clear hcc114 hce114;have HR114_0:=aM hi114_0;have HC114_0:=aM hl114_0;clear hi114_0 hl114_0;replace p114:=eq_true p114;replace q114:=eq_true q114;have p115:0≤(x9_1:Int):=of_decide_eq_true (by first|(with_reducible assumption)|assumption);have q115:x9_1<((rd_L2 t102 (ji22)).length:Int):=of_decide_eq_true (by first|(with_reducible assumption)|assumption);obtain ⟨ad115,e115,hx115_0⟩:=Kd.at_int (by repeat (first|(with_reducible exact HR114_0.out)|(with_reducible refine Kd.Ql ?_ _)|(with_reducible refine Kd.Qm ?_ _)|(with_reducible refine Kd.C_drew ?_)|exact HR114_0.out)) x9_1 p115 q115
                    cases e115
                    replace p115:=eq_true p115;replace q115:=eq_true q115;refine start_ (n:=25) (S:=fun w'=>w'.cell? (ad110.add (x10_1).toNat)=some (.slice (some ad111) (rd_L2 t102 x10_1).length c110_0)∧w'.cell? (ad111.add ((ji17)).toNat)=some (.int .i64 (rd (rd_L2 t102 x10_1) (ji17)))∧w'.cell? (ad112.add (x10_1).toNat)=some (.slice A112_0 ((rd_T53 l0 x10_1).f0).length c112_0)∧w'.cell? (ad110.add ((ji22)).toNat)=some (.slice (some ad115) (rd_L2 t102 (ji22)).length c114_0)∧w'.cell? (ad115.add (x9_1).toNat)=some (.int .i64 (rd (rd_L2 t102 (ji22)) x9_1))) (ds:=[]) #[false,false,false,false,false,false,false,false,false,false,false,false,false,false,false,false,false,false,false,false,false,false,false,false,false] (by kernel_rfl) rfl rfl ⟨hx110_0,hx111_0,((HB.out.cell (aI w _ hw112_0)).trans hw112_0),hx114_0,hx115_0⟩ (fun hHeld=>?_);refine with_tabW impl_BestChoice.tab8 impl_BestChoice.bits8 (fun HT_ HW_=>?_)
                    generalize wr.drew=w35 at HO_7 HO_8 HB HL110_0 HL114_0 HR110_0 HR112_0 HR114_0 hx110_0 hx111_0 hx112_0 hx114_0 hx115_0 hHeld ⊢
                    refine pure_ (i:=0) (N:=some 30) (v:=?_) (a':=?_) #[true,false,false,false,false,false,false,false,false,false,false,false,false,false,false,false,false,false,false,false,false,false,false,false,false] rfl rfl (any_of HT_.out (by kernel_rfl)) (fun _ _ _ h=>h) (Or.inl ⟨by rfl,?_⟩) ?_ ?_
                    rotate_left
                    ·intro w'
                     go_simp
                     with_reducible rfl
                    rotate_left
                    ·simp only [Act.put,aA,aB,aC,i64_w,i32_w]
                     rfl
                    refine pure_ (i:=1) (N:=some 31) (v:=?_) (a':=?_) #[true,true,false,false,false,false,false,false,false,false,false,false,false,false,false,false,false,false,false,false,false,false,false,false,false] rfl rfl (any_of HT_.out (by kernel_rfl)) (fun _ _ _ h=>h) (Or.inl ⟨by rfl,?_⟩) ?_ ?_
                    rotate_left
                    ·intro w'
                     go_simp
                     with_reducible rfl
                    rotate_left
                    ·simp only [Act.put,aA,aB,aC,i64_w,i32_w]
                     rfl
                    refine pure_ (i:=2) (N:=some 32) (v:=?_) (a':=?_) #[true,true,true,false,false,false,false,false,false,false,false,false,false,false,false,false,false,false,false,false,false,false,false,false,false] rfl rfl (any_of HT_.out (by kernel_rfl)) (fun _ _ _ h=>h) (Or.inl ⟨by rfl,?_⟩) ?_ ?_
                    rotate_left
                    ·intro w'
                     go_simp
                     with_reducible rfl
                    rotate_left
                    ·simp only [Act.put,aA,aB,aC,i64_w,i32_w]
                     rfl
                    refine pure_ (i:=4) (N:=some 34) (v:=?_) (a':=?_) #[true,true,true,false,true,false,false,false,false,false,false,false,false,false,false,false,false,false,false,false,false,false,false,false,false] rfl rfl (any_of HT_.out (by kernel_rfl)) (fun _ _ _ h=>h) (Or.inl ⟨by rfl,?_⟩) ?_ ?_
                    rotate_left
                    ·intro w'
                     go_simp
                     with_reducible rfl
                    rotate_left
                    ·simp only [Act.put,aA,aB,aC,i64_w,i32_w]
                     rfl
                    refine pure_ (i:=5) (N:=some 35) (v:=?_) (a':=?_) #[true,true,true,false,true,true,false,false,false,false,false,false,false,false,false,false,false,false,false,false,false,false,false,false,false] rfl rfl (any_of HT_.out (by kernel_rfl)) (fun _ _ _ h=>h) (Or.inl ⟨by rfl,?_⟩) ?_ ?_
                    rotate_left
                    ·intro w'
                     go_simp
                     with_reducible rfl
                    rotate_left
                    ·simp only [Act.put,aA,aB,aC,i64_w,i32_w]
                     rfl
                    refine pure_ (i:=6) (N:=some 36) (v:=?_) (a':=?_) #[true,true,true,false,true,true,true,false,false,false,false,false,false,false,false,false,false,false,false,false,false,false,false,false,false] rfl rfl (any_of HT_.out (by kernel_rfl)) (fun _ _ _ h=>h) (Or.inl ⟨by rfl,?_⟩) ?_ ?_
                    rotate_left
                    ·intro w'
                     go_simp
                     with_reducible rfl
                    rotate_left
                    ·simp only [Act.put,aA,aB,aC,i64_w,i32_w]
                     rfl
                    refine pure_ (i:=9) (N:=some 39) (v:=?_) (a':=?_) #[true,true,true,false,true,true,true,false,false,true,false,false,false,false,false,false,false,false,false,false,false,false,false,false,false] rfl rfl (any_of HT_.out (by kernel_rfl)) (fun _ _ _ h=>h) (Or.inl ⟨by rfl,?_⟩) ?_ ?_
                    rotate_left
                    ·intro w'
                     go_simp
                     with_reducible rfl
                    rotate_left
                    ·simp only [Act.put,aA,aB,aC,i64_w,i32_w]
                     rfl
                    refine pure_ (i:=10) (N:=some 40) (v:=?_) (a':=?_) #[true,true,true,false,true,true,true,false,false,true,true,false,false,false,false,false,false,false,false,false,false,false,false,false,false] rfl rfl (any_of HT_.out (by kernel_rfl)) (fun _ _ _ h=>h) (Or.inl ⟨by rfl,?_⟩) ?_ ?_
                    rotate_left
                    ·intro w'
                     go_simp
                     with_reducible rfl
                    rotate_left
                    ·simp only [Act.put,aA,aB,aC,i64_w,i32_w]
                     rfl
                    refine pure_ (i:=11) (N:=some 41) (v:=?_) (a':=?_) #[true,true,true,false,true,true,true,false,false,true,true,true,false,false,false,false,false,false,false,false,false,false,false,false,false] rfl rfl (any_of HT_.out (by kernel_rfl)) (fun _ _ _ h=>h) (Or.inl ⟨by rfl,?_⟩) ?_ ?_
                    rotate_left
                    ·intro w'
                     go_simp
                     with_reducible rfl
                    rotate_left
                    ·simp only [Act.put,aA,aB,aC,i64_w,i32_w]
                     rfl
                    refine pure_ (i:=13) (N:=some 43) (v:=?_) (a':=?_) #[true,true,true,false,true,true,true,false,false,true,true,true,false,true,false,false,false,false,false,false,false,false,false,false,false] rfl rfl (any_of HT_.out (by kernel_rfl)) (fun _ _ _ h=>h) (Or.inl ⟨by rfl,?_⟩) ?_ ?_
                    rotate_left
                    ·intro w'
                     go_simp
                     with_reducible rfl
                    rotate_left
                    ·simp only [Act.put,aA,aB,aC,i64_w,i32_w]
                     rfl
                    refine pure_ (i:=16) (N:=some 46) (v:=?_) (a':=?_) #[true,true,true,false,true,true,true,false,false,true,true,true,false,true,false,false,true,false,false,false,false,false,false,false,false] rfl rfl (any_of HT_.out (by kernel_rfl)) (fun _ _ _ h=>h) (Or.inl ⟨by rfl,?_⟩) ?_ ?_
                    rotate_left
                    ·intro w'
                     go_simp
                     with_reducible rfl
                    rotate_left
                    ·simp only [Act.put,aA,aB,aC,i64_w,i32_w]
                     rfl
                    refine pure_ (i:=17) (N:=some 47) (v:=?_) (a':=?_) #[true,true,true,false,true,true,true,false,false,true,true,true,false,true,false,false,true,true,false,false,false,false,false,false,false] rfl rfl (any_of HT_.out (by kernel_rfl)) (fun _ _ _ h=>h) (Or.inl ⟨by rfl,?_⟩) ?_ ?_
                    rotate_left
                    ·intro w'
                     go_simp
                     with_reducible rfl
                    rotate_left
                    ·simp only [Act.put,aA,aB,aC,i64_w,i32_w]
                     rfl
                    refine pure_ (i:=18) (N:=some 48) (v:=?_) (a':=?_) #[true,true,true,false,true,true,true,false,false,true,true,true,false,true,false,false,true,true,true,false,false,false,false,false,false] rfl rfl (any_of HT_.out (by kernel_rfl)) (fun _ _ _ h=>h) (Or.inl ⟨by rfl,?_⟩) ?_ ?_
                    rotate_left
                    ·intro w'
                     go_simp
                     with_reducible rfl
                    rotate_left
                    ·simp only [Act.put,aA,aB,aC,i64_w,i32_w]
                     rfl
                    refine pure_ (i:=19) (N:=some 49) (v:=?_) (a':=?_) #[true,true,true,false,true,true,true,false,false,true,true,true,false,true,false,false,true,true,true,true,false,false,false,false,false] rfl rfl (any_of HT_.out (by kernel_rfl)) (fun _ _ _ h=>h) (Or.inl ⟨by rfl,?_⟩) ?_ ?_
                    rotate_left
                    ·intro w'
                     go_simp
                     with_reducible rfl
                    rotate_left
                    ·simp only [Act.put,aA,aB,aC,i64_w,i32_w]
                     rfl
                    refine pure_ (i:=21) (N:=some 51) (v:=?_) (a':=?_) #[true,true,true,false,true,true,true,false,false,true,true,true,false,true,false,false,true,true,true,true,false,true,false,false,false] rfl rfl (any_of HT_.out (by kernel_rfl)) (fun _ _ _ h=>h) (Or.inl ⟨by rfl,?_⟩) ?_ ?_
                    rotate_left
                    ·intro w'
                     go_simp
                     with_reducible rfl
                    rotate_left
                    ·simp only [Act.put,aA,aB,aC,i64_w,i32_w]
                     rfl
                    refine take_ (i:=3) (N:=some 33) (v:=?_) (a':=?_) #[true,true,true,true,true,true,true,false,false,true,true,true,false,true,false,false,true,true,true,true,false,true,false,false,false] rfl rfl (take_ofW HT_.out HW_.out (by kernel_rfl)) (fun _ _ _ h=>h) (Or.inl ⟨by rfl,?_⟩) hHeld ?_ ?_
                    rotate_left
                    ·rintro w' ⟨s0,s1,s2,s3,s4⟩
                     go_simp
                     with_reducible rfl
                    rotate_left
                    ·simp only [Act.put,aA,aB,aC,i64_w,i32_w]
                     rfl
                    refine pure_ (i:=7) (N:=some 37) (v:=?_) (a':=?_) #[true,true,true,true,true,true,true,true,false,true,true,true,false,true,false,false,true,true,true,true,false,true,false,false,false] rfl rfl (any_of HT_.out (by kernel_rfl)) (fun _ _ _ h=>h) (Or.inl ⟨by rfl,?_⟩) ?_ ?_
                    rotate_left
                    ·intro w'
                     go_simp
                     with_reducible rfl
                    rotate_left
                    ·simp only [Act.put,aA,aB,aC,i64_w,i32_w]
                     rfl
                    refine take_ (i:=8) (N:=some 38) (v:=?_) (a':=?_) #[true,true,true,true,true,true,true,true,true,true,true,true,false,true,false,false,true,true,true,true,false,true,false,false,false] rfl rfl (take_ofW HT_.out HW_.out (by kernel_rfl)) (fun _ _ _ h=>h) (Or.inl ⟨by rfl,?_⟩) hHeld ?_ ?_
                    rotate_left
                    ·rintro w' ⟨s0,s1,s2,s3,s4⟩
                     go_simp
                     with_reducible rfl
                    rotate_left
                    ·simp only [Act.put,aA,aB,aC,i64_w,i32_w]
                     rfl
                    refine take_ (i:=12) (N:=some 42) (v:=?_) (a':=?_) #[true,true,true,true,true,true,true,true,true,true,true,true,true,true,false,false,true,true,true,true,false,true,false,false,false] rfl rfl (take_ofW HT_.out HW_.out (by kernel_rfl)) (fun _ _ _ h=>h) (Or.inl ⟨by rfl,?_⟩) hHeld ?_ ?_
                    rotate_left
                    ·rintro w' ⟨s0,s1,s2,s3,s4⟩
                     go_simp
                     with_reducible rfl
                    rotate_left
                    ·simp only [Act.put,aA,aB,aC,i64_w,i32_w]
                     rfl
                    refine take_ (i:=20) (N:=some 50) (v:=?_) (a':=?_) #[true,true,true,true,true,true,true,true,true,true,true,true,true,true,false,false,true,true,true,true,true,true,false,false,false] rfl rfl (take_ofW HT_.out HW_.out (by kernel_rfl)) (fun _ _ _ h=>h) (Or.inl ⟨by rfl,?_⟩) hHeld ?_ ?_
                    rotate_left
                    ·rintro w' ⟨s0,s1,s2,s3,s4⟩
                     go_simp
                     with_reducible rfl
                    rotate_left
                    ·simp only [Act.put,aA,aB,aC,i64_w,i32_w]
                     rfl
                    refine pure_ (i:=22) (N:=some 52) (v:=?_) (a':=?_) #[true,true,true,true,true,true,true,true,true,true,true,true,true,true,false,false,true,true,true,true,true,true,true,false,false] rfl rfl (any_of HT_.out (by kernel_rfl)) (fun _ _ _ h=>h) (Or.inl ⟨by rfl,?_⟩) ?_ ?_
                    rotate_left
                    ·intro w'
                     go_simp
                     with_reducible rfl
                    rotate_left
                    ·simp only [Act.put,aA,aB,aC,i64_w,i32_w]
                     rfl
                    refine take_ (i:=23) (N:=some 53) (v:=?_) (a':=?_) #[true,true,true,true,true,true,true,true,true,true,true,true,true,true,false,false,true,true,true,true,true,true,true,true,false] rfl rfl (take_ofW HT_.out HW_.out (by kernel_rfl)) (fun _ _ _ h=>h) (Or.inl ⟨by rfl,?_⟩) hHeld ?_ ?_
                    rotate_left
                    ·rintro w' ⟨s0,s1,s2,s3,s4⟩
                     go_simp
                     with_reducible rfl
                    rotate_left
                    ·simp only [Act.put,aA,aB,aC,i64_w,i32_w]
                     rfl
                    refine one_ (i:=14) (N:=some 44) #[true,true,true,true,true,true,true,true,true,true,true,true,true,true,true,false,true,true,true,true,true,true,true,true,false] rfl rfl (one_of HT_.out (by kernel_rfl)) (by decide) (fun K hK=>?_)
                    first|(refine goes_ Try.func144 (by kernel_rfl) rfl #[.agg #[.slice A112_0 ((rd_T53 l0 x10_1).f0).length c112_0],.int .i64 x11_2] (by rfl) rfl rfl (by (try simp only [aD,aE,aF]);first|done|rfl|(simp only [aG,aH];rfl)) ?_)|(refine call_ 144 #[.agg #[.slice A112_0 ((rd_T53 l0 x10_1).f0).length c112_0],.int .i64 x11_2] (by rfl) rfl (by unfold execOp;simp [resolve,Deferred.ofValue,invoke,Act.eval,enters_ Try.func144 (by kernel_rfl) rfl]) ?_)
                    with_reducible refine (impl_Offer_gain.calls _ _ ((rd_T53 l0 x10_1).f0) x11_2 t113 _ ?side1 ?side2 A21.out).mono ?_
                    (case side1=>repeat (first|exact (Kd.C_below HR112_0.out HB.out)|(with_reducible refine Kd.Ql ?_ _)|(with_reducible refine Kd.Qm ?_ _)|(with_reducible refine Kd.C_drew ?_)))
                    (case side2=>exact HC112_0.out)
                    rintro e w37 ⟨rfl,hb⟩
                    have HS0_:=(hb.cell (aI _ _ (hHeld.1))).trans (hHeld.1);have HS1_:=(hb.cell (aI _ _ (hHeld.2.1))).trans (hHeld.2.1);have HS3_:=(hb.cell (aI _ _ (hHeld.2.2.2.1))).trans (hHeld.2.2.2.1);have HS4_:=(hb.cell (aI _ _ (hHeld.2.2.2.2))).trans (hHeld.2.2.2.2);refine ⟨_,rfl,?_⟩;have n0_:=aM (Kd.Qw (by (with_reducible repeat (first|apply Kd.Qp|apply Kd.Qo|apply Kd.N_drew));exact HO_7.out) hb);have n1_:=aM (Kd.Qr (by (with_reducible repeat (first|apply Kd.Qf|apply Kd.Qe|apply Kd.R_drew));exact HO_8.out) hb);have n2_:=aM (Kd.V_below (by (with_reducible repeat (first|apply Kd.V_alloc|apply Kd.V_drewN|apply Kd.V_drew));exact HL110_0.out) hb);have n3_:=aM (Kd.V_below (by (with_reducible repeat (first|apply Kd.V_alloc|apply Kd.V_drewN|apply Kd.V_drew));exact HL114_0.out) hb);have n4_:=aM (Kd.C_below (by repeat (first|(with_reducible exact HR110_0.out)|(with_reducible refine Kd.Ql ?_ _)|(with_reducible refine Kd.Qm ?_ _)|(with_reducible refine Kd.C_drew ?_)|exact HR110_0.out)) hb);have n5_:=aM (Kd.C_below (by repeat (first|(with_reducible exact HR114_0.out)|(with_reducible refine Kd.Ql ?_ _)|(with_reducible refine Kd.Qm ?_ _)|(with_reducible refine Kd.C_drew ?_)|exact HR114_0.out)) hb);have n6_:=aM (Qg (by repeat (first|(with_reducible first|exact HB.out|apply Qc|apply Qa|apply Qb)|exact HB.out)) hb);clear HO_7;clear HO_8;clear HL110_0;clear HL114_0;clear HR110_0;clear HR114_0;clear HB;have HO_7:=n0_;have HO_8:=n1_;have HL110_0:=n2_;have HL114_0:=n3_;have HR110_0:=n4_;have HR114_0:=n5_;have HB:=n6_;clear n0_ n1_ n2_ n3_ n4_ n5_ n6_;(try clear hb);(try clear hb2);(try clear hk);(try clear hi);refine hK.out _ _ ⟨HS0_,HS1_,((HB.out.cell (aI w _ hw112_0)).trans hw112_0),HS3_,HS4_⟩ (fun hHeld=>?_);clear hK K;refine norm_ (a':=?_) ?_ ?_
                    rotate_left
                    ·show Act.put _ (some 44) _=_
                     simp only [Act.put,aA,aB,aC,i64_w,i32_w]
                     rfl
                    refine pure_ (i:=15) (N:=some 45) (v:=?_) (a':=?_) #[true,true,true,true,true,true,true,true,true,true,true,true,true,true,true,true,true,true,true,true,true,true,true,true,false] rfl rfl (any_of HT_.out (by kernel_rfl)) (fun _ _ _ h=>h) (Or.inl ⟨by rfl,?_⟩) ?_ ?_
                    rotate_left
                    ·intro w'
                     go_simp
                     with_reducible rfl
                    rotate_left
                    ·simp only [Act.put,aA,aB,aC,i64_w,i32_w]
                     rfl
                    refine pure_ (i:=24) (N:=some 54) (v:=?_) (a':=?_) #[true,true,true,true,true,true,true,true,true,true,true,true,true,true,true,true,true,true,true,true,true,true,true,true,true] rfl rfl (any_of HT_.out (by kernel_rfl)) (fun _ _ _ h=>h) (Or.inl ⟨by rfl,?_⟩) ?_ ?_
                    rotate_left
                    ·intro w'
                     go_simp
                     with_reducible rfl
                    rotate_left
                    ·simp only [Act.put,aA,aB,aC,i64_w,i32_w]
                     rfl
                    refine done_ (done_of HT_.out (by kernel_rfl)) ?_
                    try go_wp2
                    go_roundg k2
                    case measure=>have:=HK1.out;have:=HK2.out;omega
                    case rel=>exact ⟨(wrap64 (x11_2+1)),(by first|rfl|(simp;done)|(simp [*];done)),H',⟨by have:=HK1.out;have:=HK2.out;omega⟩,⟨by (with_reducible repeat (first|apply Kd.Qp|apply Kd.Qo|apply Kd.N_drew));exact HO_7.out⟩,⟨by (with_reducible repeat (first|apply Kd.Qf|apply Kd.Qe|apply Kd.R_drew));exact HO_8.out⟩,⟨by repeat (first|(with_reducible first|exact HB.out|apply Qc|apply Qa|apply Qb)|exact HB.out)⟩⟩
                  ·rw [if_neg c26] at H;exact absurd H (by simp)
                 ·rw [if_neg c25] at H;exact absurd H (by simp)
                ·rw [if_neg c24] at H;exact absurd H (by simp)
               ·rw [if_neg c23] at H;exact absurd H (by simp)
              ·rw [if_neg c20] at H;exact absurd H (by simp)
             ·rw [if_neg c19] at H;exact absurd H (by simp)
            ·rw [if_neg c18] at H;exact absurd H (by simp)
           ·rw [if_neg c16] at H;exact absurd H (by simp)
          ·rw [if_neg c15] at H;exact absurd H (by simp)
       ·rw [if_neg c14] at H;have c14b0:decide (0≤x10_1)=false:=decide_eq_false c14;clear c14;by_cases c38:0≤(l0.length:Int)
        ·rw [if_pos c38] at H;have c38b0:decide (0≤(l0.length:Int))=true:=decide_eq_true c38;have c38b1:decide (0≤l0.length)=true:=decide_eq_true (by omega);clear c38;by_cases c39:(l0.length:Int)<(t102.length:Int)
         ·rw [if_pos c39] at H;have c39b0:decide ((l0.length:Int)<(t102.length:Int))=true:=decide_eq_true c39;have c39b1:decide (l0.length<t102.length)=true:=decide_eq_true (Int.ofNat_lt.mp c39);clear c39;by_cases c40:0≤a1
          ·rw [if_pos c40] at H;have c40b0:decide (0≤a1)=true:=decide_eq_true c40;clear c40;by_cases c41:a1<((rd_L2 t102 (l0.length:Int)).length:Int)
           ·rw [if_pos c41] at H;have c41b0:decide (a1<((rd_L2 t102 (l0.length:Int)).length:Int))=true:=decide_eq_true c41;clear c41;simp only [Option.some.injEq,Prod.mk.injEq] at H;obtain ⟨rfl,rfl,rfl⟩:=H
            try go_wp2
            have n0_:=aM (Kd.N_drew HO_7.out);have n1_:=aM (Kd.R_drew HO_8.out);have n2_:=aM (Qb HB.out);clear HO_7;clear HO_8;clear HB;have HO_7:=n0_;have HO_8:=n1_;have HB:=n2_;clear n0_ n1_ n2_;obtain ⟨Ao43,co43,eo43⟩:=Kd.N_slice HO_7.out
            (first|subst eo43|(injection eo43 with f1_ f2_ f3_;have f4_:=f1_.symm;have f5_:=f3_.symm;clear f1_ f2_ f3_;subst f4_;subst f5_))
            have p108:0≤((l0.length:Int):Int):=of_decide_eq_true (by first|(with_reducible assumption)|assumption);have q108:(l0.length:Int)<(t102.length:Int):=of_decide_eq_true (by first|(with_reducible assumption)|assumption);obtain ⟨ad108,A108_0,c108_0,e108,hx108_0,hl108_0,hi108_0⟩:=at_L2 (Kd.Qq HO_7.out).2.2 (l0.length:Int) p108 q108
            cases e108
            obtain ⟨ce108,hce108,hMe108,hcc108⟩:=Kd.N_get HO_7.out [] (l0.length:Int) p108 (by first|exact q108|exact of_decide_eq_true (by first|(with_reducible assumption)|assumption)|(have e_:=(Kd.Qq HO_7.out).1;omega));obtain ⟨ua108_0,uc108_0,rfl,ul108_0,ge108_0⟩:=Kd.FK_slice_open hMe108;have hv108_0:=hcc108 0 _ rfl;rw [Nat.add_zero,show ((Kd.slice 3 (Kd.int .i64))).sz=1 from rfl,Nat.mul_one] at hv108_0;replace hv108_0:=Option.some.inj (hv108_0.symm.trans hx108_0)
            injection hv108_0 with hva_ hvn_ hvc_
            rw [hva_] at ge108_0;rw [hvc_] at ul108_0;have HL108_0:=aM (show Kd.V (Kd.int .i64) 3 _ w.heap.size _ _ (rd_L2 t102 (l0.length:Int)) from Kd.V_mk ul108_0 ge108_0);clear hva_ hvn_ hvc_ ge108_0 ul108_0;clear hcc108 hce108;have HR108_0:=aM hi108_0;have HC108_0:=aM hl108_0;clear hi108_0 hl108_0;(try simp only [Go.IntWalk.toNatUp] at hx108_0);replace p108:=eq_true p108;replace q108:=eq_true q108;have p109:0≤(a1:Int):=of_decide_eq_true (by first|(with_reducible assumption)|assumption);have q109:a1<((rd_L2 t102 (l0.length:Int)).length:Int):=of_decide_eq_true (by first|(with_reducible assumption)|assumption);obtain ⟨ad109,e109,hx109_0⟩:=Kd.at_int (by repeat (first|(with_reducible exact HR108_0.out)|(with_reducible refine Kd.Ql ?_ _)|(with_reducible refine Kd.Qm ?_ _)|(with_reducible refine Kd.C_drew ?_)|exact HR108_0.out)) a1 p109 q109
            cases e109
            replace p109:=eq_true p109;replace q109:=eq_true q109;refine start_ (n:=12) (S:=fun w'=>w'.cell? (ad108.add l0.length)=some (.slice (some ad109) (rd_L2 t102 (l0.length:Int)).length c108_0)∧w'.cell? (ad109.add (a1).toNat)=some (.int .i64 (rd (rd_L2 t102 (l0.length:Int)) a1))) (ds:=[]) #[false,false,false,false,false,false,false,false,false,false,false,false] (by kernel_rfl) rfl rfl ⟨hx108_0,hx109_0⟩ (fun hHeld=>?_);refine with_tabW impl_BestChoice.tab12 impl_BestChoice.bits12 (fun HT_ HW_=>?_)
            generalize wr.drew=w42 at HO_7 HO_8 HB HL108_0 HR108_0 hx108_0 hx109_0 hHeld ⊢
            refine pure_ (i:=0) (N:=some 64) (v:=?_) (a':=?_) #[true,false,false,false,false,false,false,false,false,false,false,false] rfl rfl (any_of HT_.out (by kernel_rfl)) (fun _ _ _ h=>h) (Or.inl ⟨by rfl,?_⟩) ?_ ?_
            rotate_left
            ·intro w'
             go_simp
             with_reducible rfl
            rotate_left
            ·simp only [Act.put,aA,aB,aC,i64_w,i32_w]
             rfl
            refine pure_ (i:=1) (N:=some 65) (v:=?_) (a':=?_) #[true,true,false,false,false,false,false,false,false,false,false,false] rfl rfl (any_of HT_.out (by kernel_rfl)) (fun _ _ _ h=>h) (Or.inl ⟨by rfl,?_⟩) ?_ ?_
            rotate_left
            ·intro w'
             go_simp
             with_reducible rfl
            rotate_left
            ·simp only [Act.put,aA,aB,aC,i64_w,i32_w]
             rfl
            refine pure_ (i:=2) (N:=some 66) (v:=?_) (a':=?_) #[true,true,true,false,false,false,false,false,false,false,false,false] rfl rfl (any_of HT_.out (by kernel_rfl)) (fun _ _ _ h=>h) (Or.inl ⟨by rfl,?_⟩) ?_ ?_
            rotate_left
            ·intro w'
             go_simp
             with_reducible rfl
            rotate_left
            ·simp only [Act.put,aA,aB,aC,i64_w,i32_w]
             rfl
            refine pure_ (i:=3) (N:=some 67) (v:=?_) (a':=?_) #[true,true,true,true,false,false,false,false,false,false,false,false] rfl rfl (any_of HT_.out (by kernel_rfl)) (fun _ _ _ h=>h) (Or.inl ⟨by rfl,?_⟩) ?_ ?_
            rotate_left
            ·intro w'
             go_simp
             with_reducible rfl
            rotate_left
            ·simp only [Act.put,aA,aB,aC,i64_w,i32_w]
             rfl
            refine pure_ (i:=4) (N:=some 68) (v:=?_) (a':=?_) #[true,true,true,true,true,false,false,false,false,false,false,false] rfl rfl (any_of HT_.out (by kernel_rfl)) (fun _ _ _ h=>h) (Or.inl ⟨by rfl,?_⟩) ?_ ?_
            rotate_left
            ·intro w'
             go_simp
             with_reducible rfl
            rotate_left
            ·simp only [Act.put,aA,aB,aC,i64_w,i32_w]
             rfl
            refine pure_ (i:=6) (N:=some 70) (v:=?_) (a':=?_) #[true,true,true,true,true,false,true,false,false,false,false,false] rfl rfl (any_of HT_.out (by kernel_rfl)) (fun _ _ _ h=>h) (Or.inl ⟨by rfl,?_⟩) ?_ ?_
            rotate_left
            ·intro w'
             go_simp
             with_reducible rfl
            rotate_left
            ·simp only [Act.put,aA,aB,aC,i64_w,i32_w]
             rfl
            refine pure_ (i:=9) (N:=some 4) (v:=?_) (a':=?_) #[true,true,true,true,true,false,true,false,false,true,false,false] rfl rfl (any_of HT_.out (by kernel_rfl)) (fun _ _ _ h=>h) (Or.inl ⟨by rfl,?_⟩) ?_ ?_
            rotate_left
            ·intro w'
             go_simp
             with_reducible rfl
            rotate_left
            ·simp only [Act.put,aA,aB,aC,i64_w,i32_w]
             rfl
            refine take_ (i:=5) (N:=some 69) (v:=?_) (a':=?_) #[true,true,true,true,true,true,true,false,false,true,false,false] rfl rfl (take_ofW HT_.out HW_.out (by kernel_rfl)) (fun _ _ _ h=>h) (Or.inl ⟨by rfl,?_⟩) hHeld ?_ ?_
            rotate_left
            ·rintro w' ⟨s0,s1⟩
             go_simp
             with_reducible rfl
            rotate_left
            ·simp only [Act.put,aA,aB,aC,i64_w,i32_w]
             rfl
            refine pure_ (i:=7) (N:=some 71) (v:=?_) (a':=?_) #[true,true,true,true,true,true,true,true,false,true,false,false] rfl rfl (any_of HT_.out (by kernel_rfl)) (fun _ _ _ h=>h) (Or.inl ⟨by rfl,?_⟩) ?_ ?_
            rotate_left
            ·intro w'
             go_simp
             with_reducible rfl
            rotate_left
            ·simp only [Act.put,aA,aB,aC,i64_w,i32_w]
             rfl
            refine take_ (i:=8) (N:=some 72) (v:=?_) (a':=?_) #[true,true,true,true,true,true,true,true,true,true,false,false] rfl rfl (take_ofW HT_.out HW_.out (by kernel_rfl)) (fun _ _ _ h=>h) (Or.inl ⟨by rfl,?_⟩) hHeld ?_ ?_
            rotate_left
            ·rintro w' ⟨s0,s1⟩
             go_simp
             with_reducible rfl
            rotate_left
            ·simp only [Act.put,aA,aB,aC,i64_w,i32_w]
             rfl
            refine pure_ (i:=10) (N:=some 5) (v:=?_) (a':=?_) #[true,true,true,true,true,true,true,true,true,true,true,false] rfl rfl (any_of HT_.out (by kernel_rfl)) (fun _ _ _ h=>h) (Or.inl ⟨by rfl,?_⟩) ?_ ?_
            rotate_left
            ·intro w'
             go_simp
             with_reducible rfl
            rotate_left
            ·simp only [Act.put,aA,aB,aC,i64_w,i32_w]
             rfl
            refine pure_ (i:=11) (N:=some 6) (v:=?_) (a':=?_) #[true,true,true,true,true,true,true,true,true,true,true,true] rfl rfl (any_of HT_.out (by kernel_rfl)) (fun _ _ _ h=>h) (Or.inl ⟨by rfl,?_⟩) ?_ ?_
            rotate_left
            ·intro w'
             go_simp
             with_reducible rfl
            rotate_left
            ·simp only [Act.put,aA,aB,aC,i64_w,i32_w]
             rfl
            refine done_ (done_of HT_.out (by kernel_rfl)) ?_
            try go_wp2
            go_ret3
            exact ⟨_,by first|rfl|(simp [errW_none,errW_some] <;> rfl)|(simp [*,errW_none,errW_some] <;> rfl),by (with_reducible repeat (first|apply Kd.Qf|apply Kd.Qe|apply Kd.R_drew));exact HO_8.out,by repeat (first|(with_reducible first|exact HB.out|apply Qc|apply Qa|apply Qb)|exact HB.out)⟩
           ·rw [if_neg c41] at H;exact absurd H (by simp)
          ·rw [if_neg c40] at H;exact absurd H (by simp)
         ·rw [if_neg c39] at H;exact absurd H (by simp)
        ·rw [if_neg c38] at H;exact absurd H (by simp)
    ·rw [if_neg c7] at H;exact absurd H (by simp)
   ·rw [if_neg c6] at H;exact absurd H (by simp)
  ·replace c4:=Bool.eq_false_iff.mpr c4;subst c4;have H1:(some (([]:List Int),0,false))=some (r1,r2,r3):=by rw [if_neg (show ¬ (false=true) by decide)] at H;exact H
   clear H;have H:=H1;clear H1;simp only [Option.some.injEq,Prod.mk.injEq] at H;obtain ⟨rfl,rfl,rfl⟩:=H;go_enter Try.func40,Try.ntmps40;go_wp2_with (first|((with_reducible refine Qt (f:=140) rfl ?_);refine goesL_ (some 14) rfl rfl Try.func140 (by kernel_rfl) rfl #[.slice A0 l0.length c0,.int .i64 a1] rfl (by (try simp only [aD,aE,aF]);first|done|rfl|(simp only [aG,aH];rfl)) ?_;(with_reducible refine (impl_isOffered.calls k _ _ l0 a1 false _ ?side1 ?side2 A3.out).mono ?_);(case side1=>repeat (first|exact HR0.out|(with_reducible refine Kd.Ql ?_ _)|(with_reducible refine Kd.Qm ?_ _)|(with_reducible refine Kd.C_drew ?_)));(case side2=>exact HC0.out);rintro e w44 ⟨rfl,hb⟩;refine ⟨_,rfl,?_⟩;have n0_:=aM (Qg (by repeat (first|(with_reducible first|exact HB.out|apply Qc|apply Qa|apply Qb)|exact HB.out)) hb);clear HB;have HB:=n0_;clear n0_;(try clear hb);(try clear hb2);(try clear hk);(try clear hi)))
   go_ret3
   exact ⟨_,by first|rfl|(simp [errW_none,errW_some] <;> rfl)|(simp [*,errW_none,errW_some] <;> rfl),by first|exact Kd.R_nil _ _ _ _ _|exact Kd.N_nil _ _ _ _ _|exact Kd.V_nil _ _ _ _ _|exact Kd.Q_nil _ _ _ _ _|exact Kd.S_nil _ _ _ _ _,by repeat (first|(with_reducible first|exact HB.out|apply Qc|apply Qa|apply Qb)|exact HB.out)⟩
end Go.Proofs.Ytpagpbamdpllnaa.Print
